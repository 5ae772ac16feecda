/- A part of the proof. No condition. -/
import Derived.Test.YtpbcabanpppfoaaGreatA14
set_option linter.all false
namespace Go.Proofs.YtpbcabanpppfoaaGreat
open Go Go.Gx Go.Vz
open Go.IntKind (wrap)
open List (flatMap getD length take replicate)
set_option maxRecDepth 100000
noncomputable section
def b7s (r : RD) (c : b8) (m : Nat) : Bool := bif c.node == rSf r then true else decide (wrap .i64 (wrap .i64 (2 * (rCr r).faults) - 1) <= (m : Int))
def a3k (r : RD) (v : Int) : RD -> List b8 -> List b8 × RD
 | st, [] => ([], st)
 | st, c :: l => bif c.view != v then a3k r v st l
  else bif b7s r c (hsF true c (sN r st) (rCr r).nodes).1 then (c :: (a3k r v (sN r (hsF true c (sN r st) (rCr r).nodes).2) l).1, (a3k r v (sN r (hsF true c (sN r st) (rCr r).nodes).2) l).2)
  else a3k r v (sN r (hsF true c (sN r st) (rCr r).nodes).2) l
def b4u : i8 D := { ash := [.nm 0, .dat .int], es := RS, rsh := [.dat (.sl (.st 3))], pes := RS, pre := some (fun _ r => okV r), post := fun a r => (((a3k r a.1 r (rL r)).1, ()), sN r (a3k r a.1 r (rL r)).2) }
structure d3q (r : RD) (v : Int) (i : List b8 × RD × Nat) : Prop where
  j : i.2.2 <= (rL r).length
  n : i.1.length <= i.2.2
  e : i.2.1.1 = r.1
  b : (rBk i.2.1).length <= (rBk r).length + 1000 * i.2.2
  h : a3k r v r (rL r) = (i.1 ++ (a3k r v i.2.1 ((rL r).drop i.2.2)).1, (a3k r v i.2.1 ((rL r).drop i.2.2)).2)
def c4o (r : RD) (v : Int) : LH D := ⟨List b8 × RD × Nat, [5, 6], fun i => [.own 0, iv (i.2.2 : Int)], d3q r v, fun i => (rL r).length - i.2.2, [(.sl 5, .st 3, 41), (.bx 1 0, .sl .u8, 35)], fun i => [.arr (.st 3) 41 i.1, .arr (.sl .u8) 35 (rBk i.2.1)], [0, 1], fun i => [a3w r, .box 143 [.own 1, iv (rMn i.2.1)]]⟩
def mnS (s : St D) : Int := match hpC s 1 1 with | .i _ n => n | _ => 0
def bkO (s : St D) : List (List UInt8) := match hpC s 1 0 with
 | .own id => (match o6 s.hp id with | some (_, .arr (.sl .u8) _ xs) => xs | _ => [])
 | _ => []
abbrev stO (r : RD) (s : St D) : RD := (r.1, (mnS s, ()), bkO s, ())
def g8j (a : CL D b4u.ash) (r : RD) : Nat -> Nat -> Option (Hint D) := fun f x => match f, x with
 | 76, 3 => some (.inv (c4o r a.1))
 | 76, 9 => some (.dep fun s => .inv (c1o r (stO r s) true (chA (rL r) (slI s 6).toNat) 8 9 (hvI r (stO r s) true (chA (rL r) (slI s 6).toNat))))
 | _, _ => none
section
variable {r : RD} {v : Int} {i : List b8 × RD × Nat} (hI : d3q r v i) (hi : i.2.2 < (rL r).length)
include hi in
theorem c1q : a3k r v i.2.1 ((rL r).drop i.2.2) = bif (chA (rL r) i.2.2).view != v then a3k r v i.2.1 ((rL r).drop (i.2.2 + 1))
  else bif b7s r (chA (rL r) i.2.2) (hsF true (chA (rL r) i.2.2) (sN r i.2.1) (rCr r).nodes).1 then (chA (rL r) i.2.2 :: (a3k r v (sN r (hsF true (chA (rL r) i.2.2) (sN r i.2.1) (rCr r).nodes).2) ((rL r).drop (i.2.2 + 1))).1, (a3k r v (sN r (hsF true (chA (rL r) i.2.2) (sN r i.2.1) (rCr r).nodes).2) ((rL r).drop (i.2.2 + 1))).2)
  else a3k r v (sN r (hsF true (chA (rL r) i.2.2) (sN r i.2.1) (rCr r).nodes).2) ((rL r).drop (i.2.2 + 1)) := by
 rw [G9 hi, show chA (rL r) i.2.2 = (rL r)[i.2.2] from a2o hi]; rfl
include hI hi in
theorem e7h (hv : ((chA (rL r) i.2.2).view != v) = true) : d3q r v (i.1, i.2.1, i.2.2 + 1) := by
 refine ⟨hi, P4 hI.n, hI.e, D5 hI.b (by show _ <= _ + 1000 * (i.2.2 + 1); omega), ?_⟩
 rw [hI.h, c1q hi, hv, B5]
variable {m : Nat} {st : RD} (hn : (rCr r).nodes.length <= 1000) (hv : ((chA (rL r) i.2.2).view != v) = false) (hh : hsF true (chA (rL r) i.2.2) (sN r i.2.1) (rCr r).nodes = (m, st))
include hI hn hh in
theorem f4c : (rBk st).length <= (rBk r).length + 1000 * (i.2.2 + 1) := by
 have h1 := c1n (w := true) (c := chA (rL r) i.2.2) (l := (rCr r).nodes) (r := sN r i.2.1)
 rw [hh] at h1
 have h2 := hI.b
 change (rBk st).length <= (rBk i.2.1).length + _ at h1
 omega
include hI hi hn hv hh in
theorem g6h (hT : b7s r (chA (rL r) i.2.2) m = true) : d3q r v (i.1 ++ [chA (rL r) i.2.2], sN r st, i.2.2 + 1) := by
 refine ⟨hi, by have := hI.n; show (i.1 ++ [_]).length <= i.2.2 + 1; rw [B7, E9]; omega, rfl, (show (rBk st).length <= _ from f4c hI hn hh), ?_⟩
 rw [hI.h, c1q hi, hv, B8, hh, hT, B5, B6]; rfl
include hI hi hn hv hh in
theorem g6i (hT : b7s r (chA (rL r) i.2.2) m = false) : d3q r v (i.1, sN r st, i.2.2 + 1) := by
 refine ⟨hi, P4 hI.n, rfl, (show (rBk st).length <= _ from f4c hI hn hh), ?_⟩
 rw [hI.h, c1q hi, hv, B8, hh, hT, B8]
include hi in
theorem c7n {out : List b8} {st : RD} (hl : (rL r).length <= 1000) (h : d3q r v (out, st, i.2.2 + 1)) : Rnd (c4o r v) i [SV.own 0, SV.i .i64 (wrap .i64 ((i.2.2 : Int) + 1))] [HB.arr (.st 3) 41 out, HB.arr (.sl .u8) 35 (rBk st)] [a3w r, .box 143 [.own 1, iv (rMn st)]] := by
 refine ⟨(out, st, i.2.2 + 1), ?_, rfl, rfl, h, by show (rL r).length - (i.2.2 + 1) < (rL r).length - i.2.2; omega⟩
 show _ = [SV.own 0, iv ((i.2.2 + 1 : Nat) : Int)]
 rw [wr1 (by omega)]
end
theorem g0o : b4u.ok EF Tp 76 := i8.proveH (c := b4u) EF Zvc (H := fun a r => g8j a r) (call := fun _ _ => d7k (fun _ _ => none) 1) (fun _ _ => c1p _ 1) fun (a : CL D b4u.ash) (r : RD) (hp : okV r) =>
 And.intro (⟨(([] : List b8), r, (0 : Nat)), rfl, rfl, rfl, ⟨C0 _, B9 _, rfl, B9 _, rfl⟩⟩ : Ent (c4o r a.1) [SV.own 0, SV.i .i64 0] [HB.arr (.st 3) 41 [], HB.arr (.sl .u8) 35 (rBk r)] [a3w r, .box 143 [.own 1, iv (rMn r)]]) (
 fun (i : List b8 × RD × Nat) (hI : d3q r a.1 i) =>
 brL fun _ : (rL r).length <= d4 =>
 bq (decide ((i.2.2 : Int) < ((rL r).length : Nat))) (fun h3 =>
 have hi : i.2.2 < (rL r).length := e9 h3
 have hb : bdC (chA (rL r) i.2.2) := c7h (hp.q.ch _ (a3i hi))
 bN (iX (i.2.2 : Int) (((rL r).length : Nat) : Int)) (ltD h3) (
 bq ((chA (rL r) i.2.2).view != a.1) (fun h4 =>
 (c7n hi hp.q.len (e7h hI hi h4) : Rnd (c4o r a.1) i [SV.own 0, SV.i .i64 (wrap .i64 ((i.2.2 : Int) + 1))] [HB.arr (.st 3) 41 i.1, HB.arr (.sl .u8) 35 (rBk i.2.1)] [a3w r, .box 143 [.own 1, iv (rMn i.2.1)]])) (fun h4 =>
 And.intro (⟨((0 : Nat), sN r i.2.1, (0 : Nat)), rfl, rfl, rfl, ⟨C0 _, B9 _, rfl, B9 _, by rw [F2]; rfl⟩⟩ : Ent (c1o r (sN r i.2.1) true (chA (rL r) i.2.2) 8 9 (hvI r (sN r i.2.1) true (chA (rL r) i.2.2))) [SV.i .i64 0, SV.i .i64 0] [HB.arr (.sl .u8) 35 (rBk i.2.1)] [a3w r, .box 143 [.own 0, iv (rMn i.2.1)]]) (
 fun (j : Nat × RD × Nat) (hJ : hvI r (sN r i.2.1) true (chA (rL r) i.2.2) j) =>
 brL fun _ : (rCr r).nodes.length <= d4 =>
 bq (decide ((j.2.2 : Int) < ((rCr r).nodes.length : Nat))) (fun h7 =>
 bN (iX (j.2.2 : Int) (((rCr r).nodes.length : Nat) : Int)) (ltD h7) (
 bq ((iA (rCr r).nodes j.2.2) != rSf r) (fun h8 =>
 bN (iX (j.2.2 : Int) (((rCr r).nodes.length : Nat) : Int)) (ltD h7) (
 pQ (okQ (sN r j.2.1)) (e7f (r0 := sN r i.2.1) (by have h1 := hI.b; have h2 := hp.bk; have h3 := hp.q.len; show (rBk i.2.1).length <= _; omega) hp.nd hp.q hJ) (
 bq ((rhP (sN r j.2.1) (chA (rL r) i.2.2) (iA (rCr r).nodes j.2.2)).1.1) (fun h9 => (f4b hp.nd hJ (e9 h7) (g6f hJ (e9 h7) h8 h9) : Rnd (c1o r (sN r i.2.1) true (chA (rL r) i.2.2) 8 9 (hvI r (sN r i.2.1) true (chA (rL r) i.2.2))) j [SV.i .i64 (wrap .i64 ((j.1 : Int) + 1)), SV.i .i64 (wrap .i64 ((j.2.2 : Int) + 1))] [HB.arr (.sl .u8) 35 (rBk (rhE (sN r j.2.1) (chA (rL r) i.2.2) (iA (rCr r).nodes j.2.2)))] [a3w r, .box 143 [.own 0, iv (rMn (rhE (sN r j.2.1) (chA (rL r) i.2.2) (iA (rCr r).nodes j.2.2)))]]))
  (fun h9 => (e7e hp.nd (e9 h7) (g6g hJ (e9 h7) h8 h9) : Rnd (c1o r (sN r i.2.1) true (chA (rL r) i.2.2) 8 9 (hvI r (sN r i.2.1) true (chA (rL r) i.2.2))) j [SV.i .i64 (j.1 : Int), SV.i .i64 (wrap .i64 ((j.2.2 : Int) + 1))] [HB.arr (.sl .u8) 35 (rBk (rhE (sN r j.2.1) (chA (rL r) i.2.2) (iA (rCr r).nodes j.2.2)))] [a3w r, .box 143 [.own 0, iv (rMn (rhE (sN r j.2.1) (chA (rL r) i.2.2) (iA (rCr r).nodes j.2.2)))]]))))) (fun h8 =>
 (e7e hp.nd (e9 h7) (g8i hJ (e9 h7) h8) : Rnd (c1o r (sN r i.2.1) true (chA (rL r) i.2.2) 8 9 (hvI r (sN r i.2.1) true (chA (rL r) i.2.2))) j [SV.i .i64 (j.1 : Int), SV.i .i64 (wrap .i64 ((j.2.2 : Int) + 1))] [HB.arr (.sl .u8) 35 (rBk j.2.1)] [a3w r, .box 143 [.own 0, iv (rMn j.2.1)]])))) (fun h7 =>
 have hh := e7g hJ h7
 have hlen : i.1.length <= 100000 := by have := hI.n; have := hp.q.len; omega
 have YES (hT : b7s r (chA (rL r) i.2.2) j.1 = true) := pQ (bdC (chA (rL r) i.2.2)) hb (
  bN (Nat.ble ((i.1.length + 1) * j0 Tp 41) d4) (b1j hlen) (
  (c7n hi hp.q.len (g6h hI hi hp.nd h4 hh hT) : Rnd (c4o r a.1) i [SV.own 0, SV.i .i64 (wrap .i64 ((i.2.2 : Int) + 1))] [HB.arr (.st 3) 41 (i.1 ++ [chA (rL r) i.2.2]), HB.arr (.sl .u8) 35 (rBk (sN r j.2.1))] [a3w r, .box 143 [.own 1, iv (rMn (sN r j.2.1))]])))
 bq ((chA (rL r) i.2.2).node == rSf r) (fun h8 => YES (by unfold b7s; rw [h8]; rfl)) (fun h8 =>
 bq (decide (wrap .i64 (wrap .i64 (2 * (rCr r).faults) - 1) <= (j.1 : Int))) (fun h9 => YES (by unfold b7s; rw [h8]; exact h9)) (fun h9 =>
 (c7n hi hp.q.len (g6i hI hi hp.nd h4 hh (by unfold b7s; rw [h8]; exact h9)) : Rnd (c4o r a.1) i [SV.own 0, SV.i .i64 (wrap .i64 ((i.2.2 : Int) + 1))] [HB.arr (.st 3) 41 i.1, HB.arr (.sl .u8) 35 (rBk (sN r j.2.1))] [a3w r, .box 143 [.own 1, iv (rMn (sN r j.2.1))]])))))))) (fun h3 =>
 (by
  have h := hI.h; rw [I8 (by have := A9 h3; omega)] at h
  show some ((i.1, ()), sN r i.2.1) = some (((a3k r a.1 r (rL r)).1, ()), sN r (a3k r a.1 r (rL r)).2); rw [h, show a3k r a.1 i.2.1 [] = ([], i.2.1) from rfl, D6] : some ((i.1, ()), sN r i.2.1) = some (b4u.post a r))))
def a4i (r : RD) : RD -> List b8 -> List d7 × RD
 | st, [] => ([], st)
 | st, c :: l => bif c.node != rSf r then (c7l r c :: (a4i r (b0m (sN r st) (cgB c)) l).1, (a4i r (b0m (sN r st) (cgB c)) l).2) else a4i r st l
def c7o (r : RD) : List d7 := bif rIs r (rSf r) then [b7c r (rOw r (rSf r))] else []
def b7f : i8 D := { ash := [.nm 0], es := RS, rsh := [.dat (.sl (.st 7))], pes := RS, pre := some (fun _ r => okV r), post := fun _ r => ((c7o r ++ (a4i r r (rL r)).1, ()), sN r (a4i r r (rL r)).2) }
structure d9f (r : RD) (o : List d7) (i : List d7 × RD × Nat) : Prop where
  j : i.2.2 <= (rL r).length
  n : i.1.length <= o.length + i.2.2
  e : i.2.1.1 = r.1
  b : (rBk i.2.1).length <= (rBk r).length + i.2.2
  h : o ++ (a4i r r (rL r)).1 = i.1 ++ (a4i r i.2.1 ((rL r).drop i.2.2)).1
  g : (a4i r r (rL r)).2 = (a4i r i.2.1 ((rL r).drop i.2.2)).2
def d0x (r : RD) (o : List d7) : LH D := ⟨List d7 × RD × Nat, [3, 6], fun i => [.own 0, iv (i.2.2 : Int)], d9f r o, fun i => (rL r).length - i.2.2, [(.sl 3, .st 7, 46), (.bx 1 0, .sl .u8, 35)], fun i => [.arr (.st 7) 46 i.1, .arr (.sl .u8) 35 (rBk i.2.1)], [0, 1], fun i => [a3w r, .box 143 [.own 1, iv (rMn i.2.1)]]⟩
def ntO (s : St D) : List d7 := match slV s 3 with
 | .own id => (match o6 s.hp id with | some (_, .arr (.st 7) _ xs) => xs | _ => [])
 | _ => []
def g8k (r : RD) : Nat -> Nat -> Option (Hint D) := fun f x => match f, x with
 | 72, 6 => some (.dep fun s => .inv (d0x r (ntO s)))
 | _, _ => none
theorem mbN : j0 Tp 46 = 416 := by kernel_rfl
theorem e7i {n : Nat} (h : n <= 100000) : Nat.ble ((n + 1) * j0 Tp 46) d4 = true := by
 rw [mbN]; exact D3 (by unfold d4; omega)
section
variable {r : RD} {o : List d7} {i : List d7 × RD × Nat} (hI : d9f r o i) (hi : i.2.2 < (rL r).length)
include hi in
theorem b4v : a4i r i.2.1 ((rL r).drop i.2.2) = bif (chA (rL r) i.2.2).node != rSf r then (c7l r (chA (rL r) i.2.2) :: (a4i r (b0m (sN r i.2.1) (cgB (chA (rL r) i.2.2))) ((rL r).drop (i.2.2 + 1))).1, (a4i r (b0m (sN r i.2.1) (cgB (chA (rL r) i.2.2))) ((rL r).drop (i.2.2 + 1))).2) else a4i r i.2.1 ((rL r).drop (i.2.2 + 1)) := by
 rw [G9 hi, show chA (rL r) i.2.2 = (rL r)[i.2.2] from a2o hi]; rfl
include hI hi in
theorem g6j (hv : ((chA (rL r) i.2.2).node != rSf r) = true) : d9f r o (i.1 ++ [c7l r (chA (rL r) i.2.2)], b0m (sN r i.2.1) (cgB (chA (rL r) i.2.2)), i.2.2 + 1) := by
  refine ⟨hi, by have := hI.n; show (i.1 ++ [_]).length <= o.length + (i.2.2 + 1); rw [List.length_append, List.length_singleton]; omega, rfl, ?_, ?_, ?_⟩
  · have h1 := hI.b; have h2 := b8m (l := rBk i.2.1) (x := cgB (chA (rL r) i.2.2)); show (ins (rBk i.2.1) (cgB (chA (rL r) i.2.2))).length <= (rBk r).length + (i.2.2 + 1); omega
  · rw [hI.h, b4v hi, hv, cond_true, List.append_assoc]; rfl
  · rw [hI.g, b4v hi, hv, cond_true]
include hI hi in
theorem g6k (hv : ((chA (rL r) i.2.2).node != rSf r) = false) : d9f r o (i.1, i.2.1, i.2.2 + 1) := by
  refine ⟨hi, Nat.le_succ_of_le hI.n, hI.e, Nat.le_succ_of_le hI.b, ?_, ?_⟩
  · rw [hI.h, b4v hi, hv, cond_false]
  · rw [hI.g, b4v hi, hv, cond_false]
include hi in
theorem d7l {out : List d7} {st : RD} (hl : (rL r).length <= 1000) (h : d9f r o (out, st, i.2.2 + 1)) : Rnd (d0x r o) i [SV.own 0, SV.i .i64 (wrap .i64 ((i.2.2 : Int) + 1))] [HB.arr (.st 7) 46 out, HB.arr (.sl .u8) 35 (rBk st)] [a3w r, .box 143 [.own 1, iv (rMn st)]] := by
 refine ⟨(out, st, i.2.2 + 1), ?_, rfl, rfl, h, by show (rL r).length - (i.2.2 + 1) < (rL r).length - i.2.2; omega⟩
 show _ = [SV.own 0, iv ((i.2.2 + 1 : Nat) : Int)]
 rw [wr1 (by omega)]
end
theorem g0p : b7f.ok EF Tp 72 := i8.proveH (c := b7f) EF Zvc (H := fun _ r => g8k r) (call := fun _ _ => d7k (fun _ _ => none) 2) (fun _ _ => c1p _ 2) fun (a : CL D b7f.ash) (r : RD) (hp : okV r) =>
 have TAIL := fun (o : List d7) (ho : o = c7o r) (hl : o.length <= 1) =>
  And.intro (⟨(o, r, (0 : Nat)), rfl, rfl, rfl, ⟨C0 _, B9 _, rfl, B9 _, rfl, rfl⟩⟩ : Ent (d0x r o) [SV.own 0, SV.i .i64 0] [HB.arr (.st 7) 46 o, HB.arr (.sl .u8) 35 (rBk r)] [a3w r, .box 143 [.own 1, iv (rMn r)]]) (
  fun (i : List d7 × RD × Nat) (hI : d9f r o i) =>
  brL fun _ : (rL r).length <= d4 =>
  bq (decide ((i.2.2 : Int) < ((rL r).length : Nat))) (fun h3 =>
  have hi : i.2.2 < (rL r).length := e9 h3
  bN (iX (i.2.2 : Int) (((rL r).length : Nat) : Int)) (ltD h3) (
  bq ((chA (rL r) i.2.2).node != rSf r) (fun h5 =>
  bN (iX (i.2.2 : Int) (((rL r).length : Nat) : Int)) (ltD h3) (
  pQ ((rBk (sN r i.2.1)).length <= 1000000000) (by have h1 := hI.b; have h2 := hp.bk; have h4 := hp.q.len; show (rBk i.2.1).length <= _; omega) (
  bN (Nat.ble ((i.1.length + 1) * j0 Tp 46) d4) (e7i (by have h1 := hI.n; have h4 := hp.q.len; omega)) (
  (d7l hi hp.q.len (g6j hI hi h5) : Rnd (d0x r o) i [SV.own 0, SV.i .i64 (wrap .i64 ((i.2.2 : Int) + 1))] [HB.arr (.st 7) 46 (i.1 ++ [c7l r (chA (rL r) i.2.2)]), HB.arr (.sl .u8) 35 (rBk (b0m (sN r i.2.1) (cgB (chA (rL r) i.2.2))))] [a3w r, .box 143 [.own 1, iv (rMn (b0m (sN r i.2.1) (cgB (chA (rL r) i.2.2))))]]))))) (fun h5 =>
  (d7l hi hp.q.len (g6k hI hi h5) : Rnd (d0x r o) i [SV.own 0, SV.i .i64 (wrap .i64 ((i.2.2 : Int) + 1))] [HB.arr (.st 7) 46 i.1, HB.arr (.sl .u8) 35 (rBk i.2.1)] [a3w r, .box 143 [.own 1, iv (rMn i.2.1)]])))) (fun h3 =>
  (by
   have hn : (rL r).drop i.2.2 = [] := I8 (by have := A9 h3; omega)
   have h := hI.h; have g := hI.g; rw [hn, show a4i r i.2.1 [] = ([], i.2.1) from rfl] at h g; show some ((i.1, ()), sN r i.2.1) = some ((c7o r ++ (a4i r r (rL r)).1, ()), sN r (a4i r r (rL r)).2); rw [<- ho, h, g, D6] : some ((i.1, ()), sN r i.2.1) = some (b7f.post a r))))
 pQ (okQ r) hp.q (
 bq (rIs r (rSf r)) (fun h1 => TAIL [b7c r (rOw r (rSf r))] (by unfold c7o; rw [h1]; rfl) (B9 _)) (fun h1 => TAIL [] (by unfold c7o; rw [h1]; rfl) (C0 _)))
abbrev Λk0 : Nat -> Option (i8 D) := u6 Λh 24 c0r
def Lk0 : a0r EF Tp Λk0 := Lh.o e4t
abbrev f4d (H : Nat -> Nat -> Option (Hint D)) (n : Nat) : j7 D := b9v 53 94 (a4n EF Zkg Λk0 Γkg f1s H n)
def e7j (H : Nat -> Nat -> Option (Hint D)) (n : Nat) : j5 Tp (f4d H n) := a9s a9t (a1b Lk0 f9s n)
abbrev kOw (k : KD) : b8 := (sd (kCh k) (kSf k)).change
abbrev kIs (k : KD) : Bool := (sdO (kCh k) (kSf k)).isSome
def b4w : i8 D := { ash := [.nm 0], es := KS, rsh := [.dat (.st 3), .dat .bool], pes := KS, pre := some (fun _ k => okK k), post := fun _ k => ((kOw k, kIs k, ()), k) }
def e7k : b4w.looks EF Tp 32 := i8.proveL (c := b4w) EF Zkg (H := fun _ _ _ _ => none) (call := fun _ _ => f4d (fun _ _ => none) 2) (fun _ _ => e7j _ 2) fun (a : CL D b4w.ash) (k : KD) (hp : okK k) =>
 pQ (okK k) hp (rfl : some (kOw k, kIs k, ()) = some (b4w.post a k).1)
abbrev Λk1 : Nat -> Option (i8 D) := u6 Λk0 32 b4w
def Lk1 : a0r EF Tp Λk1 := Lk0.o e7k
abbrev e7l (H : Nat -> Nat -> Option (Hint D)) (n : Nat) : j7 D := b9v 53 94 (a4n EF Zkg Λk1 Γkg f1s H n)
def d9g (H : Nat -> Nat -> Option (Hint D)) (n : Nat) : j5 Tp (e7l H n) := a9s a9t (a1b Lk1 f9s n)
def a7f (k : KD) (xs : List Int) : List d7 := (xs.filter fun x => x != kSf k).map fun x => a2i k (sd (kCh k) x)
def c7p (k : KD) : List d7 := bif kIs k then [b4g k (kOw k)] else []
def c1r : i8 D := { ash := [.nm 0], es := KS, rsh := [.dat (.sl (.st 7))], pes := KS, pre := some (fun _ k => okK k), post := fun _ k => ((c7p k ++ a7f k (u7 k), ()), k) }
def d7m (k : KD) (o : List d7) : LH D := ⟨List d7 × Nat, [2, 29], fun i => [.own 0, iv (i.2 : Int)], fun i => i.2 <= (u7 k).length /\ i.1 = o ++ a7f k ((u7 k).take i.2), fun i => (u7 k).length - i.2, [(.sl 2, .st 7, 46)], fun i => [.arr (.st 7) 46 i.1], [], fun _ => []⟩
def ntP (s : St D) : List d7 := match slV s 2 with
 | .own id => (match o6 s.hp id with | some (_, .arr (.st 7) _ xs) => xs | _ => [])
 | _ => []
def g8l (k : KD) : Nat -> Nat -> Option (Hint D) := fun f x => match f, x with
 | 33, 7 => some (.dep fun s => .inv (d7m k (ntP s)))
 | _, _ => none
def f1x {k : KD} {xs : List Int} : (a7f k xs).length <= xs.length := by unfold a7f; rw [C5]; exact O6 _ _
def g0q {k : KD} {xs : List Int} {i : Nat} (hi : i < xs.length) (e : (iA xs i != kSf k) = true) : a7f k (xs.take (i + 1)) = a7f k (xs.take i) ++ [a2i k (sd (kCh k) (iA xs i))] := by
 unfold a7f
 rw [show iA xs i = xs[i] from a2o hi] at e ⊢
 rw [D9 hi, L4, F5]
 simp [e]
def g0r {k : KD} {xs : List Int} {i : Nat} (hi : i < xs.length) (e : (iA xs i != kSf k) = false) : a7f k (xs.take (i + 1)) = a7f k (xs.take i) := by
 unfold a7f
 rw [show iA xs i = xs[i] from a2o hi] at e
 rw [D9 hi, L4, F5]
 simp [e]
def g0s : c1r.looks EF Tp 33 := i8.proveL (c := c1r) EF Zkg (H := fun _ k => g8l k) (call := fun _ _ => e7l (fun _ _ => none) 2) (fun _ _ => d9g _ 2) fun (a : CL D c1r.ash) (k : KD) (hp : okK k) =>
 have hl := c9u hp
 have TAIL := fun (o : List d7) (ho : o = c7p k) (hol : o.length <= 1) =>
  pQ (d2f (kCh k)) ⟨hp.len, fun p hm => (hp.ch p hm).2⟩ (
  brL fun _ : (u7 k).length <= d4 =>
  And.intro (⟨(o, (0 : Nat)), rfl, rfl, rfl, ⟨C0 _, (D6 o).symm⟩⟩ : Ent (d7m k o) [SV.own 0, SV.i .i64 0] [HB.arr (.st 7) 46 o] []) (
  fun (i : List d7 × Nat) (hI : i.2 <= (u7 k).length /\ i.1 = o ++ a7f k ((u7 k).take i.2)) =>
  have h1 : i.1.length <= 2000 := by
   rw [hI.2, B7]; have : (a7f k ((u7 k).take i.2)).length <= 1000 := D5 f1x (by rw [C4]; omega)
   omega
  bq (decide ((i.2 : Int) < ((u7 k).length : Nat))) (fun h3 =>
  have hi : i.2 < (u7 k).length := e9 h3
  bN (iX (i.2 : Int) (((u7 k).length : Nat) : Int)) (ltD h3) (
  bq ((iA (u7 k) i.2) != kSf k) (fun h5 =>
  bN (Nat.ble ((i.1.length + 1) * j0 Tp 46) d4) (e7i (by omega)) (
  (⟨(i.1 ++ [a2i k (sd (kCh k) (iA (u7 k) i.2))], i.2 + 1), by
   show _ = [SV.own 0, iv ((i.2 + 1 : Nat) : Int)]; rw [wr1 (by omega)], rfl, rfl, ⟨hi, by show i.1 ++ _ = o ++ a7f k ((u7 k).take (i.2 + 1)); rw [g0q hi h5, hI.2, B6]⟩, by show (u7 k).length - (i.2 + 1) < (u7 k).length - i.2; omega⟩ : Rnd (d7m k o) i [SV.own 0, SV.i .i64 (wrap .i64 ((i.2 : Int) + 1))] [HB.arr (.st 7) 46 (i.1 ++ [a2i k (sd (kCh k) (iA (u7 k) i.2))])] []))) (fun h5 =>
  (⟨(i.1, i.2 + 1), by
   show _ = [SV.own 0, iv ((i.2 + 1 : Nat) : Int)]; rw [wr1 (by omega)], rfl, rfl, ⟨hi, by show i.1 = o ++ a7f k ((u7 k).take (i.2 + 1)); rw [g0r hi h5]; exact hI.2⟩, by show (u7 k).length - (i.2 + 1) < (u7 k).length - i.2; omega⟩ : Rnd (d7m k o) i [SV.own 0, SV.i .i64 (wrap .i64 ((i.2 : Int) + 1))] [HB.arr (.st 7) 46 i.1] [])))) (fun h3 =>
  (by
   have hi : i.2 = (u7 k).length := by have := A9 h3; omega
   have e : i.1 = c7p k ++ a7f k (u7 k) := by rw [hI.2, hi, D1, ho]
   rw [e]; rfl : some (i.1, ()) = some (c1r.post a k).1))))
 pQ (okK k) hp (
 bq (kIs k) (fun h1 => TAIL [b4g k (kOw k)] (by unfold c7p; rw [h1]; rfl) (B9 _)) (fun h1 => TAIL [] (by unfold c7p; rw [h1]; rfl) (C0 _)))
abbrev e7m (l : List b8) : Prop := l.Pairwise fun a b => a.node < b.node
def c7q {c : b8} : ∀ {l : List b8}, a2d c true l = l.filter fun x => x.node != c.node
 | [] => rfl
 | x :: l => by
  have e : a2d c true (x :: l) = (bif x.node != c.node then [x] else []) ++ a2d c true l := rfl; rw [e, c7q, K9]; cases x.node != c.node <;> rfl
def d3r {c x : b8} {l : List b8} : a2d c false (x :: l) = bif decide (c.node <= x.node) then c :: ((bif x.node != c.node then [x] else []) ++ a2d c true l) else (bif x.node != c.node then [x] else []) ++ a2d c false l := by
 show (bif decide (c.node <= x.node) then [c] else []) ++ ((bif x.node != c.node then [x] else []) ++ a2d c (bif decide (c.node <= x.node) then true else false) l) = _
 cases decide (c.node <= x.node) <;> rfl
def a4j {x : b8} {l : List b8} {n : Int} : fnd (x :: l) n = bif x.node == n then some x else fnd l n := by
 unfold fnd
 rw [X1]
 cases x.node == n <;> rfl
def c1s {l : List b8} {m n : Int} (h : n ≠ m) : fnd (l.filter fun x => x.node != m) n = fnd l n := by
 induction l with
 | nil => rfl
 | cons x l ih =>
  rw [K9, a4j]; by_cases hx : x.node = m
  ·have : (x.node != m) = false := by simpa using hx
   have h2 : (x.node == n) = false := by simp; omega
   simp only [this, h2, B8, Bool.false_eq_true, Aq]; exact ih
  ·have : (x.node != m) = true := by simpa using hx
   simp only [this, X7]; rw [a4j, ih]
def d7n {c : b8} {n : Int} : ∀ {l : List b8}, e7m l -> fnd (a2d c false l) n = bif c.node == n then some c else fnd l n
 | [], _ => by
  show fnd [c] n = _; rw [a4j]
 | x :: l, h => by
  rw [d3r]; have hr : e7m l := (M2.1 h).2; by_cases hx : c.node <= x.node
  ·simp only [hx, O2, B5]; rw [a4j]; by_cases hn : c.node = n
   ·have : (c.node == n) = true := by simpa using hn
    rw [this]; rfl
   ·have h1 : (c.node == n) = false := by simpa using hn
    rw [h1, B8, B8, c7q, a4j]; by_cases hc : x.node = c.node
    ·have h2 : (x.node != c.node) = false := by simpa using hc
     have h3 : (x.node == n) = false := by simp; omega
     rw [h2, h3]; exact c1s fun e => hn e.symm
    ·have h2 : (x.node != c.node) = true := by simpa using hc
     rw [h2, B5, X2, a4j, c1s fun e => hn e.symm]
  ·have h0 : decide (c.node <= x.node) = false := by simpa using hx
   have h2 : (x.node != c.node) = true := by simp; omega
   rw [h0, B8, h2, B5, X2, a4j, d7n hr, a4j]; by_cases hn : c.node = n
   ·have h3 : (c.node == n) = true := by simpa using hn
    have h4 : (x.node == n) = false := by simp; omega
    rw [h3, h4]; rfl
   ·have h3 : (c.node == n) = false := by simpa using hn
    rw [h3]; rfl
def c7r {c y : b8} : ∀ {l : List b8}, y ∈ a2d c false l -> y = c ∨ (y ∈ l /\ y.node ≠ c.node) ∨ y ∈ l
 | [], h => by
  have h : y ∈ [c] := h; exact .inl (F3.1 h)
 | x :: l, h => by
  rw [d3r] at h; cases hb : decide (c.node <= x.node) with
  | true =>
   rw [hb, B5, c7q] at h; rcases D2.1 h with h | h
   ·exact .inl h
   ·rcases D4.1 h with h | h
    ·cases hc : x.node != c.node with
     | true => rw [hc] at h; exact .inr (.inr (by rw [F3.1 h]; exact E7))
     | false => rw [hc] at h; cases h
    ·exact .inr (.inr (D7 _ (H9.1 h).1))
  | false =>
   rw [hb, B8] at h; rcases D4.1 h with h | h
   ·cases hc : x.node != c.node with
    | true => rw [hc] at h; exact .inr (.inr (by rw [F3.1 h]; exact E7))
    | false => rw [hc] at h; cases h
   ·rcases c7r h with h | h | h
    ·exact .inl h
    ·exact .inr (.inr (D7 _ h.1))
    ·exact .inr (.inr (D7 _ h))
def d7o {c : b8} : ∀ {l : List b8}, e7m l -> e7m (a2d c false l)
 | [], _ => List.pairwise_singleton _ _
 | x :: l, h => by
  rw [d3r]; obtain ⟨h1, h2⟩ := M2.1 h; by_cases hx : c.node <= x.node
  ·simp only [hx, O2, B5]; rw [c7q]; refine M2.2 ⟨fun y hy => ?_, ?_⟩
   ·rcases D4.1 hy with hy | hy
    ·cases hc : x.node != c.node with
     | true =>
      rw [hc] at hy; rw [F3.1 hy]; have : x.node ≠ c.node := by simpa using hc
      omega
     | false => rw [hc] at hy; cases hy
    ·have := h1 y (H9.1 hy).1; omega
   ·cases hc : x.node != c.node with
    | true => exact M2.2 ⟨fun y hy => h1 y (H9.1 hy).1, h2.filter _⟩
    | false => exact h2.filter _
  ·have h0 : decide (c.node <= x.node) = false := by simpa using hx
   have h3 : (x.node != c.node) = true := by simp; omega
   rw [h0, B8, h3, B5, X2]; refine M2.2 ⟨fun y hy => ?_, d7o h2⟩; rcases c7r hy with rfl | hy | hy
   ·omega
   ·exact h1 y hy.1
   ·exact h1 y hy
abbrev faR (l : List a0w) (p : x7) : Option a0w := l.find? fun a => a.sq == p.sq && a.node == p.node
structure Sim (C : a0c) (me gr ep : Int) (k : KD) (r : RD) : Prop where
  kc : k.1 = (C, me, gr, ep, ())
  rc : rCr r = C
  rs : rSf r = me
  rg : rGr r = gr
  re : rEp r = ep
  ok : a0j C = 0
  se : me ∈ C.nodes
  ri : e7m (rL r)
  mm : ∀ c ∈ rL r, j8 c = true /\ c.node ∈ C.nodes
  nd : (z8 k).Nodup
  ch : ∀ x, sdO (kCh k) x = (fnd (rL r) x).map dgS
  ak : ∀ p, akO (kAk k) p = (faR (rA r) p).map fun a => (⟨a.view, a.dig⟩ : Ack)
  an : (rA r).Pairwise fun a b => a.sq ≠ b.sq ∨ a.node ≠ b.node
  am : ∀ a ∈ rA r, 1 <= a.view /\ a.sq ∈ C.nodes /\ a.node ∈ C.nodes
theorem c1t {l : List b8} {x : Int} {c : b8} (h : fnd l x = some c) : c ∈ l /\ c.node = x := by
 unfold fnd at h
 have h1 := Z6 h
 exact ⟨List.mem_of_find?_eq_some h, by simpa using h1⟩
theorem a1k {C : a0c} (h : a0j C = 0) : C.nodes.length <= 7 /\ (∀ x ∈ C.nodes, 1 <= x /\ x <= 28) /\ C.nodes.Nodup := by
 obtain ⟨h1, h2, h3⟩ := a5j h
 have hn := b8l.2 h3
 refine ⟨by omega, fun x hx => ?_, ?_⟩
 ·obtain ⟨i, hi, he⟩ := M5.1 hx; have := (hn i hi).1
  rwa [show iA C.nodes i = C.nodes[i] from a2o hi, he] at this
 ·rw [List.Nodup, List.pairwise_iff_getElem]; intro i j hi hj hij he; have := b4p hn hij hj; rw [show iA C.nodes i = C.nodes[i] from a2o hi, show iA C.nodes j = C.nodes[j] from a2o hj, he] at this; omega
theorem c4p {C : a0c} (h : a0j C = 0) : a1g C = C.faults + 1 := by
 obtain ⟨h1, h2, h3⟩ := a5j h
 show (b5s (C, ())).1 = _
 unfold b5s
 rw [h]
 show wrap .i64 (C.faults + 1) = _
 exact IntWalk.i64_in _ (by omega)
theorem b6f {l m : List Int} (h : l.Nodup) (hs : ∀ x ∈ l, x ∈ m) : l.length <= m.length := by
 induction l generalizing m with
 | nil => exact C0 _
 | cons x l ih =>
  obtain ⟨h1, h2⟩ := L5.1 h; have hx := hs x E7; have := ih (m := m.erase x) h2 fun y hy => by
   have hyx : y ≠ x := fun e => h1 (e ▸ hy)
   exact (List.mem_erase_of_ne hyx).2 (hs y (D7 _ hy))
  rw [List.length_erase_of_mem hx] at this; have hp := List.length_pos_of_mem hx; rw [I3]; omega
section
variable {C : a0c} {me gr ep : Int} {k : KD} {r : RD} (S : Sim C me gr ep k r)
include S
theorem Sim.kcr : kCr k = C := by show k.1.1 = _; rw [S.kc]
theorem Sim.ksf : kSf k = me := by show k.1.2.1 = _; rw [S.kc]
theorem Sim.kgr : kGr k = gr := by show k.1.2.2.1 = _; rw [S.kc]
theorem Sim.kep : kEp k = ep := by show k.1.2.2.2.1 = _; rw [S.kc]
theorem Sim.mem {x : Int} {s : u5} (h : (x, s) ∈ kCh k) : ∃ c, fnd (rL r) x = some c /\ s = dgS c /\ c ∈ rL r /\ c.node = x := by
 have h1 : sdO (kCh k) x = some s := d2x S.nd h
 rw [S.ch] at h1
 cases hf : fnd (rL r) x with
 | none => rw [hf] at h1; cases h1
 | some c =>
  rw [hf] at h1; obtain ⟨h2, h3⟩ := c1t hf; exact ⟨c, rfl, (I9 h1).symm, h2, h3⟩
theorem Sim.key {x : Int} (h : x ∈ z8 k) : x ∈ C.nodes := by
 obtain ⟨p, hp, rfl⟩ := E1.1 h
 obtain ⟨c, _, _, h1, h2⟩ := S.mem (x := p.1) (s := p.2) hp
 rw [<- h2]; exact (S.mm c h1).2
theorem Sim.len : (kCh k).length <= 7 := by
 have h1 := b6f S.nd fun x hx => S.key hx
 have h2 := (a1k S.ok).1
 unfold z8 at h1
 rw [C5] at h1
 omega
theorem Sim.okK : okK k where
 nodes := by rw [S.kcr]; have := (a1k S.ok).1; omega
 s1 := by rw [S.kcr, c4p S.ok]; have := (a5j S.ok).1; omega
 s2 := by rw [S.kcr, c4p S.ok]; have := (a5j S.ok).1; omega
 len := by have := S.len; omega
 ch := fun p hp => by
  obtain ⟨c, _, h2, h3, h4⟩ := S.mem (x := p.1) (s := p.2) hp; have h5 := S.mm c h3; rw [h2]; have := (a1k S.ok).2.1 _ h5.2; exact ⟨a5i h5.1, by omega, by omega⟩
theorem Sim.llen : (rL r).length <= 7 := by
 have h1 : ((rL r).map (·.node)).Nodup := by
  rw [List.Nodup, U9]; exact S.ri.imp fun h => by omega
 have h2 := b6f (m := C.nodes) h1 fun x hx => by
  obtain ⟨c, hc, rfl⟩ := E1.1 hx; exact (S.mm c hc).2
 rw [C5] at h2
 have := (a1k S.ok).1
 omega
end
theorem b2z {c : b8} (h : j8 c = true) : 1 <= c.view := (a1t h).1.v.1
section
variable {C : a0c} {me gr ep : Int} {k : KD} {r : RD} (S : Sim C me gr ep k r)
include S
theorem Sim.ig (c : b8) : Sim C me gr ep (kIg k c) r := ⟨S.kc, S.rc, S.rs, S.rg, S.re, S.ok, S.se, S.ri, S.mm, S.nd, S.ch, S.ak, S.an, S.am⟩
theorem Sim.bk {m : Int} {b : List (List UInt8)} : Sim C me gr ep k (r.1, (m, ()), b, ()) := ⟨S.kc, S.rc, S.rs, S.rg, S.re, S.ok, S.se, S.ri, S.mm, S.nd, S.ch, S.ak, S.an, S.am⟩
theorem Sim.put {c : b8} (hm : j8 c = true) (hn : c.node ∈ C.nodes) : Sim C me gr ep (c0q k (d0b (kCh k) c.node (dgS c))) (a6c r (a2d c false (rL r))) where
 kc := S.kc
 rc := S.rc
 rs := S.rs
 rg := S.rg
 re := S.re
 ok := S.ok
 se := S.se
 ri := d7o S.ri
 mm := fun y hy => by
  rcases c7r hy with rfl | h | h
  ·exact ⟨hm, hn⟩
  ·exact S.mm y h.1
  ·exact S.mm y h
 nd := d0c S.nd
 ch := fun x => by
  show sdO (d0b (kCh k) c.node (dgS c)) x = (fnd (a2d c false (rL r)) x).map dgS; rw [f0m, d7n S.ri]; by_cases h : c.node = x
  ·rw [F8 h, show (c.node == x) = true by simpa using h]; rfl
  ·rw [F7 h, show (c.node == x) = false by simpa using h]; exact S.ch x
 ak := S.ak
 an := S.an
 am := S.am
theorem Sim.sd (x : Int) : (sd (kCh k) x) = ((fnd (rL r) x).map dgS).getD c9q := by rw [<- S.ch x]
theorem Sim.own {x : Int} {c : b8} (h : fnd (rL r) x = some c) : (Go.Proofs.YtpbcabanpppfoaaGreat.sd (kCh k) x).change = c := by rw [S.sd, h]; rfl
theorem Sim.none {x : Int} (h : fnd (rL r) x = none) : (Go.Proofs.YtpbcabanpppfoaaGreat.sd (kCh k) x).change = b2s := by rw [S.sd, h]; rfl
theorem Sim.tell (c : b8) : b4g k c = b7c r c := by
 unfold b4g b7c
 rw [S.ksf, S.kgr, S.kep, S.rs, S.rg, S.re]
theorem Sim.leave (c : b8) : (lvG k c).1 = (b1r r c).1 /\ Sim C me gr ep (lvG k c).2 (b1r r c).2 := by
 unfold lvG b1r
 cases hm : j8 c with
 | false => exact ⟨rfl, S.ig c⟩
 | true =>
  rw [S.ksf, S.rs]; cases hn : c.node != me with
  | true => exact ⟨rfl, S.ig c⟩
  | false =>
   have hne : c.node = me := by simpa using hn
   have hv : decide (c.view <= (Go.Proofs.YtpbcabanpppfoaaGreat.sd (kCh k) me).change.view) = (bif rIs r me then decide (c.view <= (rOw r me).view) else false) := by
    unfold rIs rOw; cases hf : fnd (rL r) me with
    | none =>
     rw [S.none hf]; have := b2z hm; show decide (c.view <= 0) = false; exact E5 (by omega)
    | some d => rw [S.own hf]; rfl
   simp only [S3, B8, hv]; cases hb : (bif rIs r me then decide (c.view <= (rOw r me).view) else false) with
   | true => exact ⟨rfl, S.ig c⟩
   | false =>
    refine ⟨by show ([b4g k c], (0 : Int), ()) = ([b7c r c], 0, ()); rw [S.tell], ?_⟩; show Sim C me gr ep (c0q (kIg k c) (d0b (kCh k) me (dgW c))) (a6c r (a2d c false (rL r))); have h := (S.ig c).put hm (by rw [hne]; exact S.se); rw [d6x hm, <- show c.node = me from hne]; rw [hne] at h ⊢; exact h
end
abbrev prN (n : d7) : x7 := ⟨n.sq, n.node⟩
theorem b1k {n : d7} {a : a0w} : a5f n a = !(a.sq == n.sq && a.node == n.node) := by
 unfold a5f
 cases h1 : a.sq == n.sq <;> cases h2 : a.node == n.node <;> simp [bne, h1, h2]
theorem a7w {x : a0w} {l : List a0w} {p : x7} : faR (x :: l) p = bif (x.sq == p.sq && x.node == p.node) then some x else faR l p := by
 unfold faR
 rw [X1]
 cases (x.sq == p.sq && x.node == p.node) <;> rfl
theorem d7p {n : d7} {a : a0w} (h : a5f n a = true) : a8q n a = false := by unfold a8q; rw [h]; rfl
theorem d0y {n : d7} : ∀ {l : List a0w}, (l.Pairwise fun a b => a.sq ≠ b.sq ∨ a.node ≠ b.node) -> l.find? (a8q n) = (faR l (prN n)).bind fun a => bif a8q n a then some a else none
 | [], _ => rfl
 | x :: l, h => by
  obtain ⟨h1, h2⟩ := M2.1 h; rw [X1, a7w]; cases hp : (x.sq == n.sq && x.node == n.node) with
  | false =>
   have : a8q n x = false := d7p (by rw [b1k, hp]; rfl)
   rw [this]; exact d0y h2
  | true =>
   cases hb : a8q n x with
   | true => show _ = (some x).bind _; simp [hb]
   | false =>
    show l.find? (a8q n) = (some x).bind _; have hno : l.find? (a8q n) = none := by
     rw [U1]; intro y hy; have h3 := h1 y hy; rw [A7, J4, J4] at hp; have : a8q n y = false := d7p (by
      rw [b1k]; cases hq : (y.sq == n.sq && y.node == n.node) with
      | false => rfl
      | true =>
       rw [A7, J4, J4] at hq; exact absurd h3 (by rw [hp.1, hp.2, hq.1, hq.2]; simp))
     rw [this]; simp
    rw [hno]; simp [hb]
theorem f1y {n : d7} {p : x7} {l : List a0w} : faR (l.filter (a5f n) ++ [c2l n]) p = if prN n = p then some (c2l n) else faR l p := by
 induction l with
 | nil =>
  show faR [c2l n] p = _; rw [a7w]; show (bif (n.sq == p.sq && n.node == p.node) then some (c2l n) else none) = _; by_cases h : prN n = p
  ·subst h; simp
  ·rw [F7 h]; have : (n.sq == p.sq && n.node == p.node) = false := by
    cases hq : (n.sq == p.sq && n.node == p.node) with
    | false => rfl
    | true =>
     rw [A7, J4, J4] at hq; exact absurd (by cases p; simp only at hq; show (⟨n.sq, n.node⟩ : x7) = _; rw [hq.1, hq.2]) h
   rw [this]; rfl
 | cons x l ih =>
  rw [K9]; cases ho : a5f n x with
  | true =>
   rw [F8 rfl, Z4, a7w, ih, a7w]; by_cases h : prN n = p
   ·subst h; have : (x.sq == n.sq && x.node == n.node) = false := by rw [b1k] at ho; exact d0p ho
    show (bif (x.sq == n.sq && x.node == n.node) then _ else _) = _; rw [this, F8 rfl, F8 rfl]; rfl
   ·rw [F7 h, F7 h]
  | false =>
   rw [F7 (by simp), ih, a7w]; by_cases h : prN n = p
   ·rw [F8 h, F8 h]
   ·rw [F7 h, F7 h]; have hp : (x.sq == n.sq && x.node == n.node) = true := by rw [b1k] at ho; simpa using ho
    rw [A7, J4, J4] at hp; have : (x.sq == p.sq && x.node == p.node) = false := by
     cases hq : (x.sq == p.sq && x.node == p.node) with
     | false => rfl
     | true =>
      rw [A7, J4, J4] at hq; exact absurd (by cases p; simp only at hq; show (⟨n.sq, n.node⟩ : x7) = _; rw [<- hp.1, <- hp.2, hq.1, hq.2]) h
    rw [this]; rfl
theorem g0t {n : d7} {l : List a0w} (h : l.Pairwise fun a b => a.sq ≠ b.sq ∨ a.node ≠ b.node) : (l.filter (a5f n) ++ [c2l n]).Pairwise fun a b => a.sq ≠ b.sq ∨ a.node ≠ b.node := by
 rw [P5]
 refine ⟨h.filter _, List.pairwise_singleton _ _, fun a ha b hb => ?_⟩
 rw [F3.1 hb]
 have h1 := (H9.1 ha).2
 rw [b1k] at h1
 show a.sq ≠ n.sq ∨ a.node ≠ n.node
 by_cases h2 : a.sq = n.sq
 ·right; intro h3; simp [h2, h3] at h1
 ·exact .inl h2
section
variable {C : a0c} {me gr ep : Int} {k : KD} {r : RD} (S : Sim C me gr ep k r)
include S
theorem Sim.hears {n : d7} (hv : 1 <= n.view) (hs : n.sq ∈ C.nodes) (hn : n.node ∈ C.nodes) : (a0t k n).1 = (akP n r).1 /\ Sim C me gr ep (a0t k n).2 (akP n r).2 := by
 have hg : akG (kAk k) (prN n) = ((faR (rA r) (prN n)).map fun a => (⟨a.view, a.dig⟩ : Ack)).getD c9r := by rw [<- S.ak]
 have new : Sim C me gr ep (f7j k (d6c (kAk k) (prN n) ⟨n.view, n.dig⟩)) (d7c r ((rA r).filter (a5f n) ++ [c2l n])) := ⟨S.kc, S.rc, S.rs, S.rg, S.re, S.ok, S.se, S.ri, S.mm, S.nd, S.ch, fun p => by
   show akO (d6c (kAk k) (prN n) ⟨n.view, n.dig⟩) p = (faR ((rA r).filter (a5f n) ++ [c2l n]) p).map _; rw [f1y]; by_cases h : prN n = p
   ·subst h; rw [d2y, F8 rfl]; rfl
   ·rw [f0n h, F7 h]; exact S.ak p, g0t S.an, fun a ha => by
   rcases D4.1 ha with ha | ha
   ·exact S.am a (H9.1 ha).1
   ·rw [F3.1 ha]; exact ⟨hv, hs, hn⟩⟩
 unfold a0t akP
 rw [d0y S.an]
 cases hf : faR (rA r) (prN n) with
 | none =>
  have he : akG (kAk k) ⟨n.sq, n.node⟩ = c9r := by rw [show (⟨n.sq, n.node⟩ : x7) = prN n from rfl, hg, hf]; rfl
  rw [he]; have h1 : decide (n.view < c9r.view) = false := E5 (by show ¬ n.view < 0; omega)
  have h2 : (c9r.view == n.view) = false := by show ((0 : Int) == n.view) = false; simp; omega
  rw [h1, h2]; exact ⟨rfl, new⟩
 | some a =>
  have he : akG (kAk k) ⟨n.sq, n.node⟩ = ⟨a.view, a.dig⟩ := by rw [show (⟨n.sq, n.node⟩ : x7) = prN n from rfl, hg, hf]; rfl
  rw [he]; have hp : (a.sq == n.sq && a.node == n.node) = true := Z6 (p := fun a : a0w => a.sq == n.sq && a.node == n.node) hf; have ho : a5f n a = false := by rw [b1k, hp]; rfl
  have hb : a8q n a = (bif decide (n.view < a.view) then true else bif a.view == n.view then !decide (a.dig = n.dig) else false) := by unfold a8q; rw [ho]; rfl
  show (_ /\ _); simp only [Option.bind_some, hb]; cases h1 : decide (n.view < a.view) with
  | true => simp only [B5]; exact ⟨by unfold d3o; rw [h1]; rfl, S⟩
  | false =>
   simp only [B8]; cases h2 : a.view == n.view with
   | false => simp only [B8]; exact ⟨trivial, new⟩
   | true =>
    simp only [B5, T4, Bool.and_true]; cases h3 : decide (a.dig = n.dig) with
    | true => simp only [S3, B8]; exact ⟨trivial, new⟩
    | false => simp only [Bool.not_false, B5]; exact ⟨by unfold d3o; rw [h1]; rfl, S⟩
end
theorem d7q {c : b8} (h : j8 c = true) : cgB c = d9 c := by
 show (bif j8 c then (d9 c, (0 : Int), ()) else ([], 2, ()) : HL D [.sl .u8, .int]).1 = _
 rw [h]; rfl
theorem d7r {c : b8} (h : j8 c = true) : a1w (cgB c) = a4d (d9 c) := by
 rw [d7q h]
 exact (d6a (by have := d6w h; omega))
section
variable {C : a0c} {me gr ep : Int} {k : KD} {r : RD} (S : Sim C me gr ep k r)
include S
theorem Sim.ack {c : b8} (h : j8 c = true) : a2i k (dgS c) = c7l r c := by
 unfold a2i c7l
 rw [S.ksf, S.kgr, S.kep, S.rs, S.rg, S.re, d7r h]
theorem Sim.takeB {n : d7} (h : j8 n.change = true) (hs : n.sq ∈ C.nodes) (hn : n.change.node = n.sq) : (c2k k n).1 = (c1m r n).1 /\ Sim C me gr ep (c2k k n).2 (c1m r n).2 := by
 unfold c2k c1m
 rw [d6x h]
 have hvw := b2z h
 have e1 : decide ((dgS n.change).change.view < (Go.Proofs.YtpbcabanpppfoaaGreat.sd (kCh k) n.sq).change.view) = (bif rIs r n.sq then decide (n.change.view < (rOw r n.sq).view) else false) := by
  unfold rIs rOw; cases hf : fnd (rL r) n.sq with
  | none => rw [S.none hf]; show decide (n.change.view < 0) = false; exact E5 (by omega)
  | some d => rw [S.own hf]; rfl
 have e2 : ((Go.Proofs.YtpbcabanpppfoaaGreat.sd (kCh k) n.sq).change.view == (dgS n.change).change.view) = (bif rIs r n.sq then (rOw r n.sq).view == n.change.view else false) := by
  unfold rIs rOw; cases hf : fnd (rL r) n.sq with
  | none => rw [S.none hf]; show ((0 : Int) == n.change.view) = false; simp; omega
  | some d => rw [S.own hf]; rfl
 rw [e1, e2]
 cases hb : (bif rIs r n.sq then decide (n.change.view < (rOw r n.sq).view) else false) with
 | true => exact ⟨rfl, S.ig _⟩
 | false =>
  simp only [B8]; cases hc : (bif rIs r n.sq then (rOw r n.sq).view == n.change.view else false) with
  | true =>
   have e3 : (Go.Proofs.YtpbcabanpppfoaaGreat.sd (kCh k) n.sq).change = rOw r n.sq := by
    unfold rOw; cases hf : fnd (rL r) n.sq with
    | none => rw [S.none hf]; rfl
    | some d => rw [S.own hf]; rfl
   rw [e3]; simp only [B5]; show _ /\ _; cases hd : dq (α := b8) (rOw r n.sq) n.change with
   | true => exact ⟨rfl, S.ig _⟩
   | false => exact ⟨rfl, S.ig _⟩
  | false =>
   simp only [B8]; refine ⟨by rw [S.ack h], ?_⟩; have hp := (S.ig n.change).put h (by rw [hn]; exact hs); rw [hn] at hp; exact hp.bk
end
end
end Go.Proofs.YtpbcabanpppfoaaGreat
namespace Go.Proofs.YtpbcabanpppfoaaGreat
open Go Go.Gx Go.Vz
open Go.IntKind (wrap)
open List (flatMap getD length take replicate)
set_option maxRecDepth 100000
noncomputable section
open Classical in
theorem g0u {n : d7} (h : a9e n = true) : j8 n.change = true /\ n.change.node = n.sq := by
 unfold a9e at h
 have := A6 h
 exact ⟨this.2.1, this.2.2⟩
theorem g6l {b : Bool} : ((bif b then (0 : Int) else 2) != 0) = !b := by cases b <;> rfl
section
variable {C : a0c} {me gr ep : Int} {k : KD} {r : RD} (S : Sim C me gr ep k r)
include S
theorem Sim.has (x : Int) : (x0.ret (rCr r, x, ())).1 = b5w (kCr k) x := by rw [d7b, S.rc, S.kcr]
theorem Sim.take (n : d7) : (tkG k n).1 = (b0o r n).1 /\ Sim C me gr ep (tkG k n).2 (b0o r n).2 := by
 by_cases hk : n.kind = 7 ∨ n.kind = 8
 ·have k1 : (bif !(n.kind == 8) then n.kind != 7 else false) = false := by rcases hk with h | h <;> rw [h] <;> rfl
  have k2 : (bif n.kind != 7 then n.kind != 8 else false) = false := by rcases hk with h | h <;> rw [h] <;> rfl
  have c1 : ((d3g.ret (n, ())).1 != 0) = !b1p n := g6l; have c2 : ((a0o.ret (n, ())).1 != 0) = !b1p n := by rw [f1r hk]; exact g6l
  cases hm : b1p n with
  | false =>
   unfold tkG b0o; rw [k1, c1, c2, hm]; exact ⟨rfl, S⟩
  | true =>
   rw [hm] at c1 c2; unfold tkG; rw [k1, c1]; simp only [S3, B8]; rw [S.kgr, S.kep, S.ksf]; cases g1 : n.group != gr with
   | true => rw [d7h c2 k2 (by rw [S.rg, g1]; rfl)]; exact ⟨rfl, S⟩
   | false =>
    cases g2 : n.epoch != ep with
    | true => rw [d7h c2 k2 (by rw [S.rg, S.re, g1, g2]; rfl)]; exact ⟨rfl, S⟩
    | false =>
     have hg : (bif n.group != rGr r then true else n.epoch != rEp r) = false := by rw [S.rg, S.re, g1, g2]; rfl
     simp only [B8]; cases h1 : b5w (kCr k) n.sq with
     | false => rw [b6e c2 k2 hg (by rw [S.has, h1]; rfl)]; exact ⟨rfl, S⟩
     | true =>
      have hse : n.sq ∈ C.nodes := by rw [S.kcr, b4q S.ok] at h1; exact A6 h1
      cases h2 : n.sq == me with
      | true => rw [b6e c2 k2 hg (by rw [S.has, S.rs, h1, h2]; rfl)]; exact ⟨rfl, S⟩
      | false =>
       simp only [S3, B8]; rcases hk with h7 | h8
       ·have e8 : (n.kind == 8) = false := by rw [h7]; rfl
        rw [d7i c2 k2 hg (by rw [S.has, S.rs, h1, h2, e8]; rfl), e8]
        simp only [B8]; have hf : a9e n = true := by
         unfold b1p at hm; rw [e8, B8] at hm; unfold c4i at hm; rw [A7] at hm; exact hm.1
        have hc := g0u hf; exact S.takeB hc.1 hse hc.2
       ·have e8 : (n.kind == 8) = true := by rw [h8]; rfl
        cases h3 : b5w (kCr k) n.node with
        | false =>
         rw [b6e c2 k2 hg (by rw [S.has, S.has, S.rs, h1, h2, e8, h3]; rfl), e8]
         exact ⟨rfl, S⟩
        | true =>
         rw [d7i c2 k2 hg (by rw [S.has, S.has, S.rs, h1, h2, e8, h3]; rfl), e8]
         have hno : n.node ∈ C.nodes := by rw [S.kcr, b4q S.ok] at h3; exact A6 h3
         have hv : 1 <= n.view := by
          unfold b1p at hm; rw [e8, B5] at hm; unfold d0o at hm; rw [A7] at hm; exact (c6y hm.1).v.1
         obtain ⟨a1, a2⟩ := S.hears hv hse hno; unfold f1w; simp only [B5, S3, B8]; exact ⟨by rw [a1], a2⟩
 ·have k1 : (bif !(n.kind == 8) then n.kind != 7 else false) = true := by
   have h7 : (n.kind != 7) = true := by simp; omega
   have h8 : (n.kind == 8) = false := by simp; omega
   rw [h7, h8]; rfl
  have k2 : (bif n.kind != 7 then n.kind != 8 else false) = true := by
   have h7 : (n.kind != 7) = true := by simp; omega
   have h8 : (n.kind != 8) = true := by simp; omega
   rw [h7, h8]; rfl
  unfold tkG b0o; rw [k1, k2]; cases ((a0o.ret (n, ())).1 != 0) <;> exact ⟨rfl, S⟩
end
end
end Go.Proofs.YtpbcabanpppfoaaGreat
namespace Go.Proofs.YtpbcabanpppfoaaGreat
open Go Go.Gx Go.Vz
open Go.IntKind (wrap)
open List (flatMap getD length take replicate)
set_option maxRecDepth 100000
noncomputable section
section
variable {C : a0c} {me gr ep : Int} {k : KD} {r : RD} (S : Sim C me gr ep k r)
include S
theorem Sim.of (x : Int) : (Go.Proofs.YtpbcabanpppfoaaGreat.sd (kCh k) x).change = rOw r x /\ (sdO (kCh k) x).isSome = rIs r x := by
 constructor
 ·unfold rOw; cases hf : fnd (rL r) x with
  | none => rw [S.none hf]; rfl
  | some d => rw [S.own hf]; rfl
 ·rw [S.ch]; unfold rIs; cases fnd (rL r) x <;> rfl
theorem Sim.kmem {x : Int} : x ∈ z8 k ↔ x ∈ (rL r).map (·.node) := by
 constructor
 ·intro h; obtain ⟨p, hp, rfl⟩ := E1.1 h; obtain ⟨c, _, _, h1, h2⟩ := S.mem (x := p.1) (s := p.2) hp; exact E1.2 ⟨c, h1, h2⟩
 ·intro h; obtain ⟨c, hc, rfl⟩ := E1.1 h; have h1 : (fnd (rL r) c.node).isSome = true := by
   unfold fnd; rw [List.find?_isSome]; exact ⟨c, hc, by simp⟩
  rw [show (fnd (rL r) c.node).isSome = (sdO (kCh k) c.node).isSome from (S.of c.node).2.symm] at h1; obtain ⟨s, hs⟩ := S2.1 h1; exact E1.2 ⟨(c.node, s), d5o hs, rfl⟩
theorem Sim.lnd : ((rL r).map (·.node)).Nodup := by
 rw [List.Nodup, U9]
 exact S.ri.imp fun h => by omega
theorem Sim.perm : (z8 k).Perm ((rL r).map (·.node)) := (List.perm_ext_iff_of_nodup S.nd S.lnd).2 fun _ => S.kmem
theorem Sim.get {c : b8} (h : c ∈ rL r) : fnd (rL r) c.node = some c := by
 have h1 : (fnd (rL r) c.node).isSome = true := by
  unfold fnd; rw [List.find?_isSome]; exact ⟨c, h, by simp⟩
 obtain ⟨d, hd⟩ := S2.1 h1
 obtain ⟨h2, h3⟩ := c1t hd
 have : d = c := by
  rcases M5.1 h with ⟨i, hi, rfl⟩
  rcases M5.1 h2 with ⟨j, hj, rfl⟩
  have hp := List.pairwise_iff_getElem.1 S.ri; rcases Nat.lt_trichotomy i j with hij | hij | hij
  ·have := hp i j hi hj hij; omega
  ·subst hij; rfl
  ·have := hp j i hj hi hij; omega
 rw [hd, this]
theorem Sim.behind (v : Int) : bhC k v (z8 k) = (rL r).countP (bhQ v) := by
 unfold bhC
 rw [S.perm.countP_eq, List.countP_map]
 refine V0 fun c hc => ?_
 show decide (v <= (Go.Proofs.YtpbcabanpppfoaaGreat.sd (kCh k) c.node).change.view) = true ↔ decide (v <= c.view) = true
 rw [S.own (S.get hc)]
end
section
variable {C : a0c} {me gr ep : Int} {k : KD} {r : RD} (S : Sim C me gr ep k r)
include S
theorem Sim.keys : u7 k = (rL r).map (·.node) := b9u S.perm (by
 rw [U9]
 exact S.ri.imp fun h => by omega)
theorem Sim.said {c : b8} (h : c ∈ rL r) : Go.Proofs.YtpbcabanpppfoaaGreat.sd (kCh k) c.node = dgS c := by rw [S.sd, S.get h]; rfl
theorem Sim.retL : ∀ {l : List b8} {st : RD}, (∀ c ∈ l, c ∈ rL r) -> a7f k (l.map (·.node)) = (a4i r st l).1
 | [], _, _ => rfl
 | c :: l, st, h => by
  have hc := h c E7; have hl := fun d hd => h d (D7 c hd)
  unfold a7f a4i; rw [C9, K9, S.ksf, S.rs]; cases hb : c.node != me with
  | true =>
   rw [F8 rfl, C9, B5, S.said hc, S.ack (S.mm c hc).1]; have := Sim.retL (l := l) (st := b0m (sN r st) (cgB c)) hl; unfold a7f at this; rw [S.ksf] at this; rw [this]
  | false =>
   rw [F7 (by simp), B8]; have := Sim.retL (l := l) (st := st) hl; unfold a7f at this; rw [S.ksf] at this; exact this
theorem Sim.retell : c7p k ++ a7f k (u7 k) = c7o r ++ (a4i r r (rL r)).1 := by
 rw [S.keys, S.retL (st := r) fun c h => h]
 have : c7p k = c7o r := by
  unfold c7p c7o kIs kOw; rw [S.ksf, S.rs, (S.of me).2, (S.of me).1, S.tell]
 rw [this]
end
abbrev rh1 (r : RD) (c : b8) (x : Int) : Bool := (rhP r c x).1.1
theorem c1u {r : RD} {c : b8} {x : Int} : rh1 r c x = bif x == c.node then false else bif x == rSf r then (bif (fnd (rL r) c.node).isSome then dq (α := b8) ((fnd (rL r) c.node).getD b2s) c else false) else (hg c x (a1w (cgB c)) (rA r)).2 := by
 unfold rh1 rhP
 cases x == c.node with
 | true => rfl
 | false => cases x == rSf r <;> rfl
theorem d9h {r st : RD} {c : b8} {x : Int} (h : st.1 = r.1) : rh1 st c x = rh1 r c x := by
 rw [c1u, c1u]
 show (bif x == c.node then false else bif x == st.1.2.1 then (bif (fnd st.1.2.2.2.2.1 c.node).isSome then dq (α := b8) ((fnd st.1.2.2.2.2.1 c.node).getD b2s) c else false) else (hg c x (a1w (cgB c)) st.1.2.2.2.2.2.1).2) = _
 rw [h]
theorem a7x {w : Bool} {c : b8} {r : RD} : ∀ {l : List Int} {st : RD}, st.1 = r.1 -> (hsF w c st l).1 = l.countP fun x => (bif w then x != rSf r else true) && rh1 r c x
 | [], _, _ => rfl
 | x :: l, st, h => by
  have hf : rSf st = rSf r := by show st.1.2.1 = r.1.2.1; rw [h]
  rw [M7]; unfold hsF; rw [hf]; cases hw : (bif w then x != rSf r else true) with
  | true =>
   rw [B5]; have h1 := a7x (w := w) (c := c) (r := r) (l := l) (st := rhE st c x) h; show (bif rh1 st c x then 1 else 0) + (hsF w c (rhE st c x) l).1 = _; rw [h1, d9h h]; cases rh1 r c x <;> simp [Q6]
  | false =>
   rw [B8, a7x (w := w) (c := c) (r := r) (l := l) h]; simp
theorem f4e {c : b8} {x : Int} {d : Dig} : ∀ {l : List a0w}, (l.Pairwise fun a b => a.sq ≠ b.sq ∨ a.node ≠ b.node) -> (hg c x d l).2 = match faR l ⟨x, c.node⟩ with | some a => a.view == c.view && decide (a.dig = d) | none => false
 | [], _ => rfl
 | a :: l, h => by
  obtain ⟨h1, h2⟩ := M2.1 h; rw [a7w]; unfold hg m3; have ih := f4e (c := c) (x := x) (d := d) h2; cases hs : a.sq == x with
  | false =>
   show (hg c x d l).2 = _; rw [ih]; rfl
  | true =>
   cases hn : a.node == c.node with
   | false =>
    show (hg c x d l).2 = _; rw [ih]; rfl
   | true =>
    have hno : faR l ⟨x, c.node⟩ = none := by
     unfold faR; rw [U1]; intro y hy hq; rw [A7, J4, J4] at hq; rw [J4] at hs hn; have := h1 y hy; rw [hs, hn, hq.1, hq.2] at this; simp at this
    rw [hno] at ih; show (bif a.view == c.view then (bif decide (a.dig = d) then (1, true) else ((hg c x d l).1 + 1, (hg c x d l).2)) else hg c x d l).2 = (a.view == c.view && decide (a.dig = d)); cases hv : a.view == c.view with
    | false => exact ih
    | true =>
     cases hd : decide (a.dig = d) with
     | true => rfl
     | false => exact ih
section
variable {C : a0c} {me gr ep : Int} {k : KD} {r : RD} (S : Sim C me gr ep k r)
include S
theorem Sim.heard {c : b8} (hm : j8 c = true) {wo x : Int} (hw : x ≠ wo) (hx : x ≠ c.node) : rh1 r c x = hrB k (dgS c) wo x := by
 rw [c1u]
 unfold hrB
 rw [show (x == c.node) = false by simpa using hx, show (x == wo) = false by simpa using hw, S.ksf, S.rs]
 simp only [B8]
 cases hs : x == me with
 | true =>
  simp only [B5]; have h := S.of c.node; show _ = (bif (sdO (kCh k) c.node).isSome then dq (α := b8) (Go.Proofs.YtpbcabanpppfoaaGreat.sd (kCh k) c.node).change c else false); rw [h.1, h.2]
 | false =>
  simp only [B8]; rw [f4e S.an, d7r hm]; have hg : akG (kAk k) ⟨x, c.node⟩ = ((faR (rA r) ⟨x, c.node⟩).map fun a => (⟨a.view, a.dig⟩ : Ack)).getD c9r := by rw [<- S.ak]
  show _ = ((akG (kAk k) ⟨x, c.node⟩).view == c.view && (decide ((akG (kAk k) ⟨x, c.node⟩).dig = a4d (d9 c)) && true)); rw [hg]; cases faR (rA r) ⟨x, c.node⟩ with
  | none =>
   have := b2z hm; have e : (c9r.view == c.view) = false := by show ((0 : Int) == c.view) = false; simp; omega
   show false = (c9r.view == c.view && _); rw [e]; rfl
  | some a =>
   show (a.view == c.view && decide (a.dig = a4d (d9 c))) = (a.view == c.view && (decide (a.dig = a4d (d9 c)) && true)); rw [Bool.and_true]
end
section
variable {C : a0c} {me gr ep : Int} {k : KD} {r : RD} (S : Sim C me gr ep k r)
include S
theorem Sim.oth (x : Int) : a3j (kCr k) x = C.nodes.filter fun y => !(y == x) := by
 unfold a3j
 rw [S.kcr, S.ok]; rfl
theorem Sim.cnt0 {c : b8} (hm : j8 c = true) : (hsF false c r (rCr r).nodes).1 = hrN k (dgS c) 0 := by
 rw [a7x (r := r) rfl, S.rc]
 unfold hrN
 rw [S.oth, Y5]
 refine V0 fun x hx => ?_
 have hx0 : x ≠ 0 := by have := (a1k S.ok).2.1 x hx; omega
 show (true && rh1 r c x) = true ↔ (hrB k (dgS c) 0 x && !(x == c.node)) = true
 rw [T4]
 by_cases h : x = c.node
 ·have e : (x == c.node) = true := by simpa using h
  rw [c1u, e]; simp
 ·have e : (x == c.node) = false := by simpa using h
  rw [S.heard hm hx0 h, e]; simp
theorem Sim.cntS {c : b8} (hm : j8 c = true) : (hsF true c r (rCr r).nodes).1 = hrN k (dgS c) (kSf k) := by
 rw [a7x (r := r) rfl, S.rc]
 unfold hrN
 rw [S.oth, Y5]
 refine V0 fun x hx => ?_
 show ((x != rSf r) && rh1 r c x) = true ↔ (hrB k (dgS c) (kSf k) x && !(x == c.node)) = true
 rw [S.rs, S.ksf]
 by_cases hs : x = me
 ·have e1 : (x != me) = false := by simpa using hs
  have e2 : hrB k (dgS c) me x = false := by
   unfold hrB; rw [show (x == me) = true by simpa using hs]; rfl
  rw [e1, e2]; simp
 ·have e1 : (x != me) = true := by simpa using hs
  rw [e1, T4]; by_cases h : x = c.node
  ·have e : (x == c.node) = true := by simpa using h
   rw [c1u, e]; simp
  ·have e : (x == c.node) = false := by simpa using h
   rw [S.heard hm hs h, e]; simp
theorem Sim.vouched (c : b8) : (c7a k c).1 = (a7v r c).1 /\ Sim C me gr ep (c7a k c).2 (a7v r c).2 := by
 unfold c7a a7v
 rw [show (x0.ret (rCr r, c.node, ())).1 = b5w (kCr k) c.node from S.has c.node]
 cases hm : j8 c with
 | false =>
  cases b5w (kCr k) c.node with
  | false => exact ⟨rfl, S⟩
  | true => exact ⟨rfl, S.ig c⟩
 | true =>
  cases hh : b5w (kCr k) c.node with
  | false => exact ⟨rfl, S⟩
  | true =>
   simp only [S3, B8]; have h := S.of c.node; have e : (bif (sdO (kCh k) c.node).isSome then dq (α := b8) (Go.Proofs.YtpbcabanpppfoaaGreat.sd (kCh k) c.node).change c else false) = (bif rIs r c.node then dq (α := b8) (rOw r c.node) c else false) := by rw [h.1, h.2]
   unfold a9a; rw [e]; cases hb : (bif rIs r c.node then dq (α := b8) (rOw r c.node) c else false) with
   | true => exact ⟨rfl, S.ig c⟩
   | false =>
    refine ⟨?_, (S.ig c).bk⟩; show (decide (a1g (kCr k) <= (hrN k (dgS c) 0 : Int)), ()) = (decide ((a0m.ret (rCr r, ())).1 <= ((hsF false c r (rCr r).nodes).1 : Int)), ()); rw [S.cnt0 hm, d0u, S.rc, S.kcr]
end
section
variable {C : a0c} {me gr ep : Int} {k : KD} {r : RD} (S : Sim C me gr ep k r)
include S
theorem Sim.cntT {c : b8} (hm : j8 c = true) (st : RD) : (hsF true c (sN r st) (rCr r).nodes).1 = hrN k (dgS c) (kSf k) := by
 rw [a7x (r := r) (st := sN r st) rfl, <- a7x (r := r) (st := r) rfl]
 exact S.cntS hm
theorem Sim.rdyB {c : b8} {v : Int} (h : c ∈ rL r) (st : RD) : rdyB k v c.node = bif c.view != v then false else b7s r c (hsF true c (sN r st) (rCr r).nodes).1 := by
 unfold Go.Proofs.YtpbcabanpppfoaaGreat.rdyB b7s f0d
 rw [S.said h, S.cntT (S.mm c h).1 st, S.ksf, S.rs, S.kcr, S.rc]
 show (bif c.view == v then _ else false) = _
 cases hv : c.view == v <;> simp [bne, hv]
theorem Sim.readyL {v : Int} : ∀ {l : List b8} {st : RD}, (∀ c ∈ l, c ∈ rL r) -> a1x k v (l.map (·.node)) = (a3k r v st l).1
 | [], _, _ => rfl
 | c :: l, st, h => by
  have hc := h c E7; have hl := fun d hd => h d (D7 c hd)
  have ih (s : RD) := Sim.readyL (v := v) (l := l) (st := s) hl; unfold a1x at ih ⊢; unfold a3k; rw [C9, K9, S.rdyB hc st]; cases hv : c.view != v with
  | true => rw [B5, B5, F7 (by simp)]; exact ih st
  | false =>
   rw [B8, B8]; cases ht : b7s r c (hsF true c (sN r st) (rCr r).nodes).1 with
   | true =>
    rw [B5, F8 rfl, C9, S.said hc]; show c :: _ = c :: _; rw [ih (sN r (hsF true c (sN r st) (rCr r).nodes).2)]
   | false => rw [B8, F7 (by simp)]; exact ih _
theorem Sim.ready (v : Int) : a1x k v (u7 k) = (a3k r v r (rL r)).1 := by
 rw [S.keys]; exact S.readyL fun c h => h
end
abbrev d9i (r : RD) (x : b8) : Prop := x.node ≠ rSf r /\ (a0m.ret (rCr r, ())).1 <= (((rL r).countP (jmQ (rSf r) x.view) : Nat) : Int)
theorem d7s {r : RD} {x : b8} {b : Int} : jnT r x b = true ↔ d9i r x /\ b < x.view := by
 unfold jnT d9i
 by_cases h1 : x.node = rSf r
 ·have : (x.node != rSf r) = false := by simpa using h1
  rw [this]; simp [h1]
 ·have : (x.node != rSf r) = true := by simpa using h1
  rw [this, B5]; by_cases h2 : (a0m.ret (rCr r, ())).1 <= (((rL r).countP (jmQ (rSf r) x.view) : Nat) : Int)
  ·rw [F6 h2, B5, C6]; exact ⟨fun h => ⟨⟨h1, h2⟩, h⟩, fun h => h.2⟩
  ·rw [E5 h2]; exact ⟨fun h => absurd h J3, fun h => absurd h.1.2 h2⟩
theorem c1v {r : RD} : ∀ {l : List b8} {b : Int}, b <= jbF r l b /\ (∀ c ∈ l, d9i r c -> c.view <= jbF r l b) /\ (jbF r l b = b ∨ ∃ c ∈ l, d9i r c /\ c.view = jbF r l b)
 | [], b => ⟨Z5 _, fun c hc => (by cases hc), .inl rfl⟩
 | x :: l, b => by
  unfold jbF; cases ht : jnT r x b with
  | true =>
   obtain ⟨h1, h2⟩ := d7s.1 ht; obtain ⟨g1, g2, g3⟩ := c1v (r := r) (l := l) (b := x.view); rw [B5]; refine ⟨by omega, fun c hc hq => ?_, .inr ?_⟩
   ·rcases D2.1 hc with rfl | hc
    ·exact g1
    ·exact g2 c hc hq
   ·rcases g3 with g3 | ⟨c, hc, hq, hv⟩
    ·exact ⟨x, E7, h1, g3.symm⟩
    ·exact ⟨c, D7 _ hc, hq, hv⟩
  | false =>
   obtain ⟨g1, g2, g3⟩ := c1v (r := r) (l := l) (b := b); rw [B8]; refine ⟨g1, fun c hc hq => ?_, ?_⟩
   ·rcases D2.1 hc with rfl | hc
    ·have : ¬ b < c.view := fun h => by rw [d7s.2 ⟨hq, h⟩] at ht; cases ht
     omega
    ·exact g2 c hc hq
   ·rcases g3 with g3 | ⟨c, hc, hq, hv⟩
    ·exact .inl g3
    ·exact .inr ⟨c, D7 _ hc, hq, hv⟩
section
variable {C : a0c} {me gr ep : Int} {k : KD} {r : RD} (S : Sim C me gr ep k r)
include S
theorem Sim.jvV {l : List b8} (h : ∀ c ∈ l, c ∈ rL r) : jnV k (l.map (·.node)) = (l.filter fun c => c.node != me).map (·.view) := by
 unfold Go.Proofs.YtpbcabanpppfoaaGreat.jnV
 rw [S.ksf]
 induction l with
 | nil => rfl
 | cons c l ih =>
  have hc := h c E7; have ih := ih fun d hd => h d (D7 c hd)
  rw [C9, K9, K9]; cases hb : c.node != me with
  | true => rw [F8 rfl, F8 rfl, C9, C9, ih, S.said hc]
  | false => rw [F7 (by simp), F7 (by simp), ih]
theorem Sim.jvP {v : Int} : ((jnV k (z8 k)).Perm (((rL r).filter fun c => c.node != me).map (·.view))) := by
 rw [<- S.jvV fun c h => h]
 unfold Go.Proofs.YtpbcabanpppfoaaGreat.jnV
 exact (S.perm.filter _).map _
theorem Sim.jcnt (w : Int) : (rL r).countP (jmQ (rSf r) w) = (jnR k).countP fun y => decide (w <= y) := by
 have h1 := (a3p (jnV k (z8 k))).trans (S.jvP (v := w))
 show _ = (t8 _).countP _
 rw [h1.countP_eq, List.countP_map, Y5, S.rs]
 refine V0 fun c _ => ?_
 show jmQ me w c = true ↔ (decide (w <= c.view) && (c.node != me)) = true
 unfold jmQ
 cases c.node != me <;> simp
theorem Sim.join (v : Int) : Go.Proofs.YtpbcabanpppfoaaGreat.jnP k v = (bif jbF r (rL r) v == v then (0, false, ()) else (jbF r (rL r) v, true, ())) := by
 have hsome : (a0m.ret (rCr r, ())).1 = a1g (kCr k) := by rw [d0u, S.rc, S.kcr]
 have hf : 1 <= a1g (kCr k) := S.okK.s1
 obtain ⟨g1, g2, g3⟩ := c1v (r := r) (l := rL r) (b := v)
 have hsort : (jnR k).Pairwise (· <= ·) := a5a _
 have hmem {w : Int} : w ∈ jnR k ↔ ∃ c ∈ rL r, c.node ≠ me /\ c.view = w := by
  have h1 := ((a3p (jnV k (z8 k))).trans (S.jvP (v := w))).mem_iff (a := w); show w ∈ t8 _ ↔ _; rw [h1, E1]; constructor
  ·rintro ⟨c, hc, hw⟩; obtain ⟨h2, h3⟩ := H9.1 hc; exact ⟨c, h2, by simpa using h3, hw⟩
  ·rintro ⟨c, hc, hn, hw⟩; exact ⟨c, H9.2 ⟨hc, by simpa using hn⟩, hw⟩
 have qua (c : b8) : d9i r c ↔ c.node ≠ me /\ a1g (kCr k) <= (((jnR k).countP fun y => decide (c.view <= y) : Nat) : Int) := by
  unfold d9i; rw [hsome, S.rs, <- S.rs, S.jcnt]
 unfold Go.Proofs.YtpbcabanpppfoaaGreat.jnP
 by_cases hi : jnI k < 0
 ·rw [F6 hi, B5]; have hno : jbF r (rL r) v = v := by
   rcases g3 with g3 | ⟨c, hc, hq, hv⟩
   ·exact g3
   ·have h1 := ((qua c).1 hq).2; have h2 : ((jnR k).countP fun y => decide (c.view <= y)) <= (jnR k).length := O7; unfold jnI at hi; omega
  rw [hno, show (v == v) = true from Q5 v]; rfl
 ·rw [E5 hi, B8]; have hi2 : (jnI k).toNat < (jnR k).length := by unfold jnI at hi ⊢; omega
  obtain ⟨A, B, x, e1, e2, e3, e4⟩ := spl hi2; rw [e3]; have hB : (((B.length + 1 : Nat)) : Int) = a1g (kCr k) := by rw [e4]; unfold jnI at hi ⊢; omega
  have hge : a1g (kCr k) <= (((jnR k).countP fun y => decide (x <= y) : Nat) : Int) := by
   have h := f8a (e1 ▸ hsort); rw [<- e1] at h; omega
  obtain ⟨c, hc, hn, hcv⟩ := hmem.1 (show x ∈ jnR k by rw [e1]; simp)
  have hx : x <= jbF r (rL r) v := by
   have h := g2 c hc ((qua c).2 ⟨hn, by rw [hcv]; exact hge⟩)
   rwa [hcv] at h
  have hle : jbF r (rL r) v = v ∨ jbF r (rL r) v <= x := by
   rcases g3 with g3 | ⟨d, hd, hq, hv⟩
   ·exact .inl g3
   ·right; have h1 := ((qua d).1 hq).2; rw [<- hv]; refine f8b (e1 ▸ hsort) ?_; rw [<- e1]; omega
  by_cases hxv : x <= v
  ·rw [F6 hxv, B5]; have hno : jbF r (rL r) v = v := by rcases hle with h | h <;> omega
   rw [hno, show (v == v) = true from Q5 v]; rfl
  ·rw [E5 hxv, B8]; have he : jbF r (rL r) v = x := by rcases hle with h | h <;> omega
   rw [he, show (x == v) = false by simp; omega]; rfl
end
theorem Sim.new {C : a0c} {me gr ep : Int} (ok : a0j C = 0) (se : me ∈ C.nodes) {i : (Int × Unit) × List (Dig × List UInt8) × List (List UInt8 × Bool) × Unit} {m : Int} {b : List (List UInt8)} :
  Sim C me gr ep ((C, me, gr, ep, ()), i.1, [], [], i.2.1, i.2.2.1, ()) ((C, me, gr, ep, [], [], ()), (m, ()), b, ()) where
 kc := rfl
 rc := rfl
 rs := rfl
 rg := rfl
 re := rfl
 ok := ok
 se := se
 ri := List.Pairwise.nil
 mm := fun c hc => by cases hc
 nd := U0
 ch := fun _ => rfl
 ak := fun _ => rfl
 an := List.Pairwise.nil
 am := fun a ha => by cases ha
theorem d9j {l : List a0w} {m : List Int} (h : l.Pairwise fun a b => a.sq ≠ b.sq ∨ a.node ≠ b.node) (hm : ∀ a ∈ l, 1 <= a.sq /\ a.sq <= 28 /\ 1 <= a.node /\ a.node <= 28) : l.length <= 900 := by
 have h1 : (l.map fun a => a.sq * 100 + a.node).Nodup := by
  rw [List.Nodup, U9]; exact (List.Pairwise.and_mem.1 h).imp fun ⟨ha, hb, h⟩ => by
   have := hm _ ha; have := hm _ hb; rcases h with h | h <;> omega
 have h2 := b6f (m := (List.range 30).flatMap fun i : Nat => (List.range 30).map fun j : Nat => (((i : Nat) : Int) * 100 + ((j : Nat) : Int))) h1 fun x hx => by
  obtain ⟨a, ha, rfl⟩ := E1.1 hx; have := hm a ha; refine List.mem_flatMap.2 ⟨a.sq.toNat, T0.2 (by omega), E1.2 ⟨a.node.toNat, T0.2 (by omega), by omega⟩⟩
 rw [C5] at h2
 refine D5 h2 (by decide +kernel)
section
variable {C : a0c} {me gr ep : Int} {k : KD} {r : RD} (S : Sim C me gr ep k r)
include S
theorem Sim.okQ (hb : (rBk r).length <= 900000000) : okQ r where
 bk := hb
 len := by have := S.llen; omega
 ch := fun c hc => a5i (S.mm c hc).1
 al := by
  have h := d9j (m := C.nodes) S.an fun a ha => by
   have h1 := S.am a ha; have h2 := (a1k S.ok).2.1; have h3 := h2 _ h1.2.1; have h4 := h2 _ h1.2.2; omega
  omega
theorem Sim.okV (hb : (rBk r).length <= 800000000) : okV r := ⟨S.okQ (by omega), hb, by rw [S.rc]; have := (a1k S.ok).1; omega⟩
end
structure SB (C : a0c) (me gr ep : Int) (b : Nat) (k : KD) (r : RD) : Prop where
  s : Sim C me gr ep k r
  b : (rBk r).length <= b
theorem b8n {α : Type} [DecidableEq α] (x : α) : dq x x = true := by unfold dq; simp
theorem b4x {α : Type} [DecidableEq α] (x : List α) : eqB x x = true := by unfold eqB; simp
theorem f1z {r : RD} {c : b8} : (rBk (b1r r c).2).length <= (rBk r).length := by
 unfold b1r
 cases (bif !j8 c then true else c.node != rSf r) with
 | true => exact B9 _
 | false => cases (bif rIs r (rSf r) then decide (c.view <= (rOw r (rSf r)).view) else false) with
  | true => exact B9 _
  | false => exact B9 _
theorem g0v {r : RD} {n : d7} : rBk (akP n r).2 = rBk r := by
 unfold akP
 split <;> rfl
theorem f2a {r : RD} {n : d7} : (rBk (b0o r n).2).length <= (rBk r).length + 1 := by
 unfold b0o
 generalize (bif (a0o.ret (n, ())).1 != 0 then true else (bif n.kind != 7 then n.kind != 8 else false)) = b1
 generalize (bif n.group != rGr r then true else n.epoch != rEp r) = b2
 generalize (bif (bif !(x0.ret (rCr r, n.sq, ())).1 then true else n.sq == rSf r) then true else (bif n.kind == 8 then !(x0.ret (rCr r, n.node, ())).1 else false)) = b3
 generalize (n.kind == 8) = b4
 generalize (bif rIs r n.sq then decide (n.change.view < (rOw r n.sq).view) else false) = b5
 generalize (bif rIs r n.sq then (rOw r n.sq).view == n.change.view else false) = b6
 cases b1 with
 | true => exact R4 _
 | false => cases b2 with
  | true => exact R4 _
  | false => cases b3 with
   | true => exact R4 _
   | false => cases b4 with
    | true => show (rBk (akP n r).2).length <= _; rw [g0v]; exact R4 _
    | false => cases b5 with
     | true => exact R4 _
     | false => cases b6 with
      | true => exact R4 _
      | false => exact b8m
theorem f2b {r : RD} {c : b8} : (rBk (a7v r c).2).length <= (rBk r).length + (rCr r).nodes.length := by
 unfold a7v
 cases (bif !j8 c then true else !(x0.ret (rCr r, c.node, ())).1) with
 | true => exact R7 _ _
 | false => cases (bif rIs r c.node then dq (α := b8) (rOw r c.node) c else false) with
  | true => exact R7 _ _
  | false => exact c1n
theorem c7s {r : RD} {v : Int} : ∀ {l : List b8} {st : RD}, (rBk (a3k r v st l).2).length <= (rBk st).length + (rCr r).nodes.length * l.length
 | [], st => B9 _
 | c :: l, st => by
  have e : (rCr r).nodes.length * (c :: l).length = (rCr r).nodes.length * l.length + (rCr r).nodes.length := by rw [I3, Nat.mul_succ]
  unfold a3k; rw [e]; cases c.view != v with
  | true => have := c7s (r := r) (v := v) (l := l) (st := st); show (rBk (a3k r v st l).2).length <= _; omega
  | false =>
   have h1 := c1n (w := true) (c := c) (l := (rCr r).nodes) (r := sN r st); have h2 := c7s (r := r) (v := v) (l := l) (st := sN r (hsF true c (sN r st) (rCr r).nodes).2); have h3 : (rBk (sN r st)).length = (rBk st).length := rfl; have h4 : (rBk (sN r (hsF true c (sN r st) (rCr r).nodes).2)).length = (rBk (hsF true c (sN r st) (rCr r).nodes).2).length := rfl; rw [B8]; cases b7s r c (hsF true c (sN r st) (rCr r).nodes).1 with
   | true => show (rBk (a3k r v (sN r (hsF true c (sN r st) (rCr r).nodes).2) l).2).length <= _; omega
   | false => show (rBk (a3k r v (sN r (hsF true c (sN r st) (rCr r).nodes).2) l).2).length <= _; omega
theorem c7t {r : RD} : ∀ {l : List b8} {st : RD}, (rBk (a4i r st l).2).length <= (rBk st).length + l.length
 | [], st => B9 _
 | c :: l, st => by
  unfold a4i; rw [I3]; cases c.node != rSf r with
  | true =>
   have h1 := c7t (r := r) (l := l) (st := b0m (sN r st) (cgB c)); have h2 : (rBk (b0m (sN r st) (cgB c))).length <= (rBk st).length + 1 := b8m; show (rBk (a4i r (b0m (sN r st) (cgB c)) l).2).length <= _; omega
  | false => have := c7t (r := r) (l := l) (st := st); show (rBk (a4i r st l).2).length <= _; omega
section
variable {C : a0c} {me gr ep : Int} {b : Nat} {k : KD} {r : RD} (S : SB C me gr ep b k r)
include S
theorem SB.ok : okK k := S.s.okK
theorem SB.q (hb : b <= 800000000) : okQ r := S.s.okQ (by have := S.b; omega)
theorem SB.v (hb : b <= 800000000) : okV r := S.s.okV (by have := S.b; omega)
theorem SB.up {d : Nat} (hb : b <= d) : SB C me gr ep d k r := ⟨S.s, D5 S.b hb⟩
theorem SB.leave (c : b8) : (lvG k c).1 = (b1r r c).1 /\ SB C me gr ep (b + 1) (lvG k c).2 (b1r r c).2 :=
 ⟨(S.s.leave c).1, (S.s.leave c).2, by have := f1z (r := r) (c := c); have := S.b; omega⟩
theorem SB.take (n : d7) : (tkG k n).1 = (b0o r n).1 /\ SB C me gr ep (b + 1) (tkG k n).2 (b0o r n).2 :=
 ⟨(S.s.take n).1, (S.s.take n).2, by have := f2a (r := r) (n := n); have := S.b; omega⟩
theorem SB.cn : (rCr r).nodes.length <= 7 := by rw [S.s.rc]; exact (a1k S.s.ok).1
theorem SB.vouched (c : b8) : (c7a k c).1 = (a7v r c).1 /\ SB C me gr ep (b + 7) (c7a k c).2 (a7v r c).2 :=
 ⟨(S.s.vouched c).1, (S.s.vouched c).2, by have := f2b (r := r) (c := c); have := S.b; have := S.cn; omega⟩
theorem SB.retell : c7p k ++ a7f k (u7 k) = c7o r ++ (a4i r r (rL r)).1 /\ SB C me gr ep (b + 7) k (sN r (a4i r r (rL r)).2) :=
 ⟨S.s.retell, S.s.bk, by have := c7t (r := r) (l := rL r) (st := r); have := S.b; have := S.s.llen; show (rBk (a4i r r (rL r)).2).length <= _; omega⟩
theorem SB.ready (v : Int) : a1x k v (u7 k) = (a3k r v r (rL r)).1 /\ SB C me gr ep (b + 49) k (sN r (a3k r v r (rL r)).2) :=
 ⟨S.s.ready v, S.s.bk, by
  have h := c7s (r := r) (v := v) (l := rL r) (st := r); have h1 := S.b; have h2 := S.s.llen; have h3 := S.cn; have h4 : (rCr r).nodes.length * (rL r).length <= 7 * 7 := Nat.mul_le_mul h3 h2; show (rBk (a3k r v r (rL r)).2).length <= _; omega⟩
theorem SB.own : (b4w.post () k).1 = (b4s.post () r).1 := by
 show (kOw k, kIs k, ()) = (rOw r (rSf r), rIs r (rSf r), ())
 unfold kOw kIs
 rw [S.s.ksf, S.s.rs, (S.s.of me).1, (S.s.of me).2]
theorem SB.has {x : Int} (h : rIs r x = true) : x ∈ C.nodes /\ j8 (rOw r x) = true /\ (rOw r x).node = x := by
 cases hf : fnd (rL r) x with
 | none => rw [show rIs r x = (fnd (rL r) x).isSome from rfl, hf] at h; cases h
 | some c =>
  obtain ⟨h1, h2⟩ := c1t hf; have e : rOw r x = c := by show (fnd (rL r) x).getD b2s = c; rw [hf]; rfl
  have := S.s.mm c h1; rw [e]; exact ⟨by rw [<- h2]; exact this.2, this.1, h2⟩
end
theorem f2c {n : d7} {d : Dig} (h : bdN n) : bdN { n with dig := d } := ⟨h.b, h.a, h.an, h.c, h.cl, h.cs, h.pl, h.ps, h.d, h.t, h.n⟩
theorem f2d {n : d7} {c : b8} (h : bdN n) : bdN (c1l.ret (n, c, ())).1 := by
 have e : (c1l.ret (n, c, ())).1 = (bif decide (n.dig = b6z) then { n with dig := a1w (cgB c) } else n) := by kernel_rfl
 rw [e]
 generalize a1w (cgB c) = d
 cases decide (n.dig = b6z) with
 | true => exact f2c h
 | false => exact h
def d3s : a4o D := { ts := [.sl (.st 1)], t := .st 1, e := 116, pre := some (fun a => a.1.length <= 1000000), ret := fun a => (a.1, ()) }
def g6m : d3s.ok Tp 95 := a4o.prove (F := EF) (Z := Z0) (c := d3s) ⟨fun _ _ _ _ h => h, rfl⟩ (H := fun _ _ _ => none) (call := fun _ => a0g EF Z0 noC noO (fun _ _ => none) 4) (fun _ => m7 Z0 K0 4) fun (a : HL D d3s.ts) (hp : d3s.holds a) =>
 have h : a.1.length <= 1000000 := hp
 Nl.mk (xs := a.1) (fun h1 => (by show some ([], ()) = some (a.1, ()); rw [h1] : some ([], ()) = some (d3s.ret a))) (
 bN (Nat.ble ((0 + length a.1) * j0 Tp 116) d4) (by rw [d5g]; exact D3 (by unfold d4; omega)) (
 (rfl : some ([] ++ a.1, ()) = some (d3s.ret a))))
def d3t : a4o D := { ts := [.sl (.st 2)], t := .st 2, e := 118, pre := some (fun a => a.1.length <= 1000000), ret := fun a => (a.1, ()) }
def g6n : d3t.ok Tp 96 := a4o.prove (F := EF) (Z := Z0) (c := d3t) ⟨fun _ _ _ _ h => h, rfl⟩ (H := fun _ _ _ => none) (call := fun _ => a0g EF Z0 noC noO (fun _ _ => none) 4) (fun _ => m7 Z0 K0 4) fun (a : HL D d3t.ts) (hp : d3t.holds a) =>
 have h : a.1.length <= 1000000 := hp
 Nl.mk (xs := a.1) (fun h1 => (by show some ([], ()) = some (a.1, ()); rw [h1] : some ([], ()) = some (d3t.ret a))) (
 bN (Nat.ble ((0 + length a.1) * j0 Tp 118) d4) (by rw [c9j]; exact D3 (by unfold d4; omega)) (
 (rfl : some ([] ++ a.1, ()) = some (d3t.ret a))))
abbrev Γpl : Nat -> Option (Con D) := i5 (i5 (i5 (i5 (i5 (i5 (i5 (i5 (i5 (i5 (i5 (i5 noC 40 a7q) 46 a7c) 59 u9) 60 b1x) 61 a2c) 62 x0) 64 c1g) 66 a9b) 48 b4j) 70 c0n) 68 c1i) 16 d0e
def g8m : n3 EF Tp Γpl noO := (((((((((((K0.c d2m).c c5z).c a9v).c d2n).c d6z).c c7b).c c4l).c f3l).c f3m).c e4i).c e6s).c f8d
abbrev Γpi : Nat -> Option (Con D) := i5 Γpl 100 d3i
def Kpi : n3 EF Tp Γpi noO := g8m.c f3w
abbrev Δpl : Nat -> Option (i8 D) := u6 (u6 (u6 (u6 (u6 (u6 (u6 (u6 (u6 noO 11 c2h) 12 a0s) 20 a4h) 26 a4u) 65 b0n) 69 a2k) 73 a4v) 76 b4u) 72 b7f
def Kpl : n3 EF Tp Γpi Δpl := ((((((((Kpi.o f2v).o f9v).o f9t).o f9u).o g0g).o g0h).o g0n).o g0o).o g0p
abbrev Λpl : Nat -> Option (i8 D) := u6 (u6 (u6 (u6 (u6 (u6 (u6 (u6 (u6 (u6 (fun _ => none) 15 b2r) 22 b2a) 25 b4e) 32 b4w) 33 c1r) 51 b6u) 71 b4s) 74 b4t) 75 b7d) 77 b2e
def Lpl : a0r EF Tp Λpl := (((((((((a0r.nil.o f3j).o e4z).o e4v).o e7k).o g0s).o e4y).o e7a).o g0k).o g0i).o e6v
abbrev ΓpN : Nat -> Option (Con D) := i5 (i5 noC 9 a2r) 67 c1l
def KpN : n3 EF Tp ΓpN noO := (K0.c c9k).c g6a
def e7n : Con D := { ts := [.st 3, .st 3], rt := [.bool], pre := some (fun a => a.1 = a.2.1), ret := fun _ => (true, ()) }
def g0w : e7n.ok Tp 43 := by
 intro a G w vs hw hp hv
 have hp : a.1 = a.2.1 := hp
 have e : a3r.ret a = e7n.ret a := by
  show (dq (α := b8) a.1 a.2.1, ()) = (true, ()); rw [hp, b8n]
 have := b8f a G w vs hw trivial hv
 rw [e] at this
 exact this
abbrev ΓpL : Nat -> Option (Con D) := i5 (i5 noC 23 a3r) 43 e7n
def KpL : n3 EF Tp ΓpL noO := (K0.c b1c).c g0w
abbrev ΔpO : Nat -> Option (i8 D) := u6 noO 50 b2o
def KpO : n3 EF Tp noC ΔpO := K0.o e3x
def g0x : a4o D := { ts := [.st 3], t := .u8, e := 5, rt := [.int], pre := some (fun a => j8 a.1 = true), ret := fun a => (d9 a.1, 0, ()) }
def g6o : g0x.ok Tp 83 := by
 refine ⟨⟨fun _ _ _ _ h => h, rfl⟩, fun a G w vs hw hp hv => ?_⟩
 have hp : j8 a.1 = true := hp
 have e : d3e.ret a = g0x.ret a := by
  show (bif j8 a.1 then (d9 a.1, (0 : Int), ()) else ([], 2, ())) = _; rw [hp]; rfl
 refine (f3q.2 a G w vs hw trivial hv).mono ?_
 rintro ex w' ⟨v, h1, G', o, u, us, h2, h3, h4, h5, h6, h7⟩
 rw [e] at h4 h5 h6
 exact ⟨v, h1, G', o, u, us, h2, h3, h4, h5, h6, h7⟩
abbrev Φpl : Nat -> Option (a4o D) := fun f => match f with
 | 95 => some d3s
 | 96 => some d3t
 | 83 => some g0x
 | _ => none
def Fpl : ∀ f c, Φpl f = some c -> c.ok Tp f := by
 intro f c h
 unfold Φpl at h
 split at h
 ·cases h; exact g6m
 ·cases h; exact g6n
 ·cases h; exact g6o
 ·cases h
def Zpl : ZF Tp D := (Z0.side Kpl).skip
def g6p : SV D -> Bool
 | .own _ => true
 | _ => false
def ppl : Nat -> List (SV D) -> Bool := fun f l => match f, l with
 | 20, [_, .agg l] => l.any g6p
 | _, _ => false
def c7u (H : Nat -> Nat -> Option (Hint D)) : Nat -> j7 D
 | 0 => noH
 | n + 1 => f5u 28 [(6, .st 3), (7, .st 11)] (e2o ppl (inH EF Zpl H (c7u H n)) (e3d EF Φpl (e3b EF ΓpL (e9c EF ΓpN (a5t EF ΔpO (c3q EF Λpl (b1o EF Γpi (c3p EF Δpl (inH EF Zpl H (c7u H n))))))))))
def b6g (H : Nat -> Nat -> Option (Hint D)) : ∀ n, j5 Tp (c7u H n)
 | 0 => a7a
 | n + 1 => e9g (c5w (a2l EF Zpl (b6g H n)) (e3e Fpl (e3c KpL.g (e9d KpN.g (a1l EF KpO.d (c0b Lpl (a2q EF Kpl.g (c0a Kpl.d (a2l EF Zpl (b6g H n))))))))))
def SX (b : Nat) (k : KD) (r : RD) : Prop := ∃ C me gr ep, SB C me gr ep b k r
abbrev kE : List Nat := [9, 2, 7, 8, 3, 4]
abbrev mE : Nat := 15
abbrev bE : Nat := 10
abbrev plC (k : KD) (r : RD) : List (HB D) := a5s EF KS kE KS k ++ [.box 140 [.ptr bE 0, iv (rCr r).faults, .sl .int (rCr r).nodes, iv (rSf r), iv (rGr r), iv (rEp r), .sl (.st 3) (rL r), .sl (.st 11) (rA r)], .box 143 [.own 0, iv (rMn r)]]
def c7v (t : Nat) (z : Int) (N b c : Nat) : LH D := ⟨KD × RD × Nat, [t], fun i => [iv ((i.2.2 : Int) + z)], fun i => i.2.2 <= N /\ SX (b + c * i.2.2) i.1 i.2.1, fun i => N - i.2.2, [(.bx bE 0, .sl .u8, 35)], fun i => [.arr (.sl .u8) 35 (rBk i.2.1)], kE ++ [mE, bE], fun i => plC i.1 i.2.1⟩
def g0y : List (Nat × Nat × HB D) -> Nat
 | [] => 0
 | (_, _, .arr (.sl .u8) _ xs) :: _ => xs.length
 | _ :: r => g0y r
def e7o (d : Nat) : LH D := ⟨b8 × Nat, [19], fun i => [iv (i.2 : Int)], fun i => i.2 <= i.1.mz.length /\ i.1.mz.length <= 1000000, fun i => i.1.mz.length - i.2, [(.bx d 3, .st 1, 116), (.bx d 4, .st 2, 118), (.bx d 5, .st 2, 118)],
 fun i => [.arr (.st 1) 116 i.1.mz, .arr (.st 2) 118 i.1.p, .arr (.st 2) 118 i.1.q], [d], fun i => [.box 41 [iv i.1.node, iv i.1.view, iv i.1.low, .own 0, .own 1, .own 2]]⟩
def g0z : LH D := ⟨Int, [7], fun i => [iv i], fun _ => True, fun _ => 0, [], fun _ => [], [], fun _ => []⟩
def plB (s : St D) (t : Nat) : Nat := match slV s t with | .ptr id _ => id | _ => 0
def plD (l : List Do) : Prop := ∀ d ∈ l, bdN d.note /\ bdC d.change
def e7p : Con D := { ts := [.st 0, .st 19, .sl (.st 13)], rt := [.bool], pre := some (fun a => plD a.2.2.1), ret := fun _ => (true, ()) }
def plH : Nat -> Nat -> Option (Hint D) := fun f r => match f, r with
 | 7, 3 => some (.joi g0z)
 | 20, 2 => some (.sure false)
 | 7, 0 => some (.dep fun s => match slV s 10 with | .ptr _ _ => .unr 0 | _ => .sure false)
 | 7, 10 => some (.dep fun s => match slV s 10 with | .ptr _ _ => .inv (c7v 13 0 60 0 1000) | _ => .unr 1)
 | 31, 6 => some (.dep fun s => .inv (c7v 9 (-1) 8 (g0y s.hp) 60))
 | 31, 13 => some (.dep fun s => .inv (c7v 14 0 30 (g0y s.hp) 10))
 | 31, 20 => some (.dep fun s => .inv (e7o (plB s 15)))
 | _, _ => none
section
variable {b : Nat} {k : KD} {r : RD} (S : SX b k r)
include S
theorem SX.ok : okK k := by obtain ⟨_, _, _, _, h⟩ := S; exact h.ok
theorem SX.q (hb : b <= 800000000) : okQ r := by obtain ⟨_, _, _, _, h⟩ := S; exact h.q hb
theorem SX.v (hb : b <= 800000000) : okV r := by obtain ⟨_, _, _, _, h⟩ := S; exact h.v hb
theorem SX.bd : (rBk r).length <= b := by obtain ⟨_, _, _, _, h⟩ := S; exact h.b
theorem SX.up {d : Nat} (hb : b <= d) : SX d k r := by obtain ⟨_, _, _, _, h⟩ := S; exact ⟨_, _, _, _, h.up hb⟩
theorem SX.ex : SX ((rBk r).length + 60 * 0) k r := by obtain ⟨_, _, _, _, h⟩ := S; exact ⟨_, _, _, _, h.s, B9 _⟩
theorem SX.ey : SX ((rBk r).length + 10 * 0) k r := by obtain ⟨_, _, _, _, h⟩ := S; exact ⟨_, _, _, _, h.s, B9 _⟩
theorem SX.leave (c : b8) : (a4u.post (c, ()) k).1 = (b0n.post (c, ()) r).1 /\ SX (b + 1) (a4u.post (c, ()) k).2 (b0n.post (c, ()) r).2 := by obtain ⟨_, _, _, _, h⟩ := S; exact ⟨(h.leave c).1, _, _, _, _, (h.leave c).2⟩
theorem SX.take (n : d7) : (a0s.post (n, ()) k).1 = (a2k.post (n, ()) r).1 /\ SX (b + 1) (a0s.post (n, ()) k).2 (a2k.post (n, ()) r).2 := by obtain ⟨_, _, _, _, h⟩ := S; exact ⟨(h.take n).1, _, _, _, _, (h.take n).2⟩
theorem SX.vouched (c : b8) : (a4h.post (c, ()) k).1 = (a4v.post (c, ()) r).1 /\ SX (b + 7) (a4h.post (c, ()) k).2 (a4v.post (c, ()) r).2 := by obtain ⟨_, _, _, _, h⟩ := S; exact ⟨(h.vouched c).1, _, _, _, _, (h.vouched c).2⟩
theorem SX.retell : (c1r.post () k).1.1 = (b7f.post () r).1.1 /\ SX (b + 7) k (b7f.post () r).2 := by obtain ⟨_, _, _, _, h⟩ := S; exact ⟨h.retell.1, _, _, _, _, h.retell.2⟩
theorem SX.ready (v : Int) : (b2a.post (v, ()) k).1.1 = (b4u.post (v, ()) r).1.1 /\ SX (b + 49) k (b4u.post (v, ()) r).2 := by obtain ⟨_, _, _, _, h⟩ := S; exact ⟨(h.ready v).1, _, _, _, _, (h.ready v).2⟩
theorem SX.own : (b4w.post () k).1 = (b4s.post () r).1 := by obtain ⟨_, _, _, _, h⟩ := S; exact h.own
theorem SX.join (v : Int) : (b2r.post (v, ()) k).1 = (b4t.post (v, ()) r).1 := by obtain ⟨_, _, _, _, h⟩ := S; exact h.s.join v
theorem SX.behind (v : Int) : (b4e.post (v, ()) k).1 = (b7d.post (v, ()) r).1 := by
 obtain ⟨_, _, _, _, h⟩ := S
 show (((bhC k v (z8 k) : Nat) : Int), ()) = ((((rL r).countP (bhQ v) : Nat) : Int), ())
 rw [h.s.behind v]
theorem SX.of (x : Int) : (sd (kCh k) x).change = (b2e.post (x, ()) r).1.1 /\ (sdO (kCh k) x).isSome = (b2e.post (x, ()) r).1.2.1 := by obtain ⟨_, _, _, _, h⟩ := S; exact h.s.of x
theorem SX.may {x : Int} (hx : (sdO (kCh k) x).isSome = true) : b5w (kCr k) x = true /\ j8 (sd (kCh k) x).change = true /\ (sd (kCh k) x).change.node = x := by
 obtain ⟨_, _, _, _, h⟩ := S
 have e := h.s.of x
 rw [e.2] at hx
 have g := h.has hx
 rw [e.1]
 exact ⟨by rw [h.s.kcr, b4q h.s.ok]; exact F6 g.1, g.2.1, g.2.2⟩
theorem SX.len (x : Int) : (sd (kCh k) x).change.mz.length <= 1000000 /\ (sd (kCh k) x).change.p.length <= 1000000 /\ (sd (kCh k) x).change.q.length <= 1000000 := d2t S.ok x
theorem SX.ink (x : List UInt8) : SX b (a1m k x) r := by
 obtain ⟨_, _, _, _, h⟩ := S
 exact ⟨_, _, _, _, ⟨h.s.kc, h.s.rc, h.s.rs, h.s.rg, h.s.re, h.s.ok, h.s.se, h.s.ri, h.s.mm, h.s.nd, h.s.ch, h.s.ak, h.s.an, h.s.am⟩, h.b⟩
theorem SX.vow {x : Int} {c : b8} (hx : (sdO (kCh k) x).isSome = true) (hc : (sd (kCh k) x).change = c) : (a4v.post (c, ()) r).1 = (true, ()) /\ SX (b + 7) (a1m k (d9 (sd (kCh k) x).change)) (a4v.post (c, ()) r).2 := by
 have S' := S
 obtain ⟨_, _, _, _, h⟩ := S'
 have e := h.s.of x
 rw [e.2] at hx
 have g := h.has hx
 have hc2 : c = rOw r x := hc.symm.trans e.1
 subst hc2
 have e1 : a7v r (rOw r x) = ((true, ()), r) := by
  unfold a7v; rw [show (x0.ret (rCr r, (rOw r x).node, ())).1 = b5w (kCr _) (rOw r x).node from h.s.has _, h.s.kcr, b4q h.s.ok, g.2.1, g.2.2, F6 g.1, hx, b8n]
  rfl
 show (a7v r (rOw r x)).1 = (true, ()) /\ SX (b + 7) (a1m k (d9 (Go.Proofs.YtpbcabanpppfoaaGreat.sd (kCh k) x).change)) (a7v r (rOw r x)).2
 rw [e1]
 exact ⟨rfl, (S.ink _).up (R7 _ _)⟩
end
theorem SX.new {C : a0c} {me gr : Int} (h : (bif a0j C != 0 then true else !b5w C me) = false) {n : Int} {m1 : List (Dig × List UInt8)} {m2 : List (List UInt8 × Bool)} :
  SX (0 + 1000 * 0) ((C, me, gr, 1, ()), (n, ()), [], [], m1, m2, ()) ((C, me, gr, 1, [], [], ()), (0, ()), [], ()) := by
 have h1 : a0j C = 0 := by
  cases hc : a0j C != 0 with
  | true => rw [hc] at h; cases h
  | false => simpa using hc
 rw [h1] at h
 have h2 : b5w C me = true := by
  have h : (!b5w C me) = false := h; simpa using h
 rw [b4q h1] at h2
 exact ⟨C, me, gr, 1, Sim.new (i := ((n, ()), m1, m2, ())) h1 (A6 h2), B9 _⟩
theorem plN {α : Type} [BEq α] [LawfulBEq α] {a b : α} (e : a = b) (h : (a != b) = true) : False := by subst e; simp at h
theorem g1a {a b : b8} (e : a = b) (h : (!(a3r.ret (a, b, ())).1) = true) : False := by
 subst e
 have h : (!dq (α := b8) a a) = true := h
 rw [b8n] at h; cases h
theorem g8n {a b : List d7} (e : a = b) (h : (!(a9b.ret (a, b, ())).1) = true) : False := by
 subst e
 have h : (!eqB (α := d7) a a) = true := h
 rw [b4x] at h; cases h
theorem g8o {a b : List b8} (e : a = b) (h : (!(b4j.ret (a, b, ())).1) = true) : False := by
 subst e
 have h : (!eqB (α := b8) a a) = true := h
 rw [b4x] at h; cases h
theorem plL {a b : List d7 × Int × Unit} (e : a = b) (h : (bif a.2.1 == b.2.1 then (a9b.ret (a.1, b.1, ())).1 else false) = false) : False := by
 subst e
 have h : (bif a.2.1 == a.2.1 then eqB (α := d7) a.1 a.1 else false) = false := h
 rw [b4x, Q5] at h; cases h
theorem plT {a b : List d7 × Int × Unit} {n : d7} (e : a = b) (h : (!bif bif a.2.1 == b.2.1 then (a9b.ret (a.1, b.1, ())).1 else false then (c0n.ret (n, n, ())).1 else false) = true) : False := by
 subst e
 have h : (!bif bif a.2.1 == a.2.1 then eqB (α := d7) a.1 a.1 else false then dq (α := d7) n n else false) = true := h
 rw [b4x, Q5, b8n] at h; cases h
theorem plE {C : a0c} {me : Int} : (bif (a2c.ret (C, ())).1 != 0 then true else !(x0.ret (C, me, ())).1) = (bif (u9.ret (C, ())).1 != 0 then true else !(a7q.ret (C, me, ())).1) := by
 rw [c7e, d7b]; rfl
theorem plI {l : List Int} {x : Int} {q : Int × Unit} (h : 0 < l.length) (e : a2r.ret (x, min ((l.length : Nat) : Int) 4, ()) = q) : (decide (0 <= q.1) && decide (q.1 < ((l.length : Nat) : Int))) = true := by
 have h1 := f8c (x := x) (n := min ((l.length : Nat) : Int) 4) (by omega) (by omega)
 have h2 : q.1 = brg x (min ((l.length : Nat) : Int) 4) := by rw [<- e]; rfl
 rw [h2]
 simp only [A7, C6]
 omega
theorem plX {i n : Nat} (h : (bif bif decide (((i : Nat) : Int) + 0 < (n : Int)) then decide (((i : Nat) : Int) + 0 < (60 : Int)) else false then (0 : Int) == 0 else false) = true) : i < n /\ i < 60 := by
 cases h1 : decide (((i : Nat) : Int) + 0 < (n : Int)) with
 | false => rw [h1] at h; cases h
 | true =>
  cases h2 : decide (((i : Nat) : Int) + 0 < (60 : Int)) with
  | false => rw [h1, h2] at h; cases h
  | true => have := A6 h1; have := A6 h2; omega
theorem plJ {i n : Nat} (h : i < n) : (decide (0 <= ((i : Nat) : Int) + 0) && decide (((i : Nat) : Int) + 0 < (n : Int))) = true := by simp; omega
theorem plW {i : Nat} {z : Int} (h : i <= 1000) (hz : -1 <= z) (hz2 : z <= 0) : wrap .i64 (((i : Nat) : Int) + z + 1) = ((i + 1 : Nat) : Int) + z := by
 rw [IntWalk.i64_in _ (by omega)]; omega
theorem g8p {c : b8} (h : j8 c = true) : (d9 c).length <= 65536 := by rw [<- d7q h]; exact D5 c7g (by decide)
end
end Go.Proofs.YtpbcabanpppfoaaGreat
