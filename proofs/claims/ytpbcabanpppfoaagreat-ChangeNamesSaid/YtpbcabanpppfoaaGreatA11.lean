/- A part of the proof. No condition. -/
import Derived.Test.YtpbcabanpppfoaaGreatA10
set_option linter.all false
namespace Go.Proofs.YtpbcabanpppfoaaGreat
open Go Go.Gx Go.Vz
open Go.IntKind (wrap)
open List (flatMap getD length take replicate)
set_option maxRecDepth 100000
noncomputable section
def zP (b : List UInt8) : Nat := 63 - (b.length + 8) % 64
def lbU (all : Int) (i : Nat) : UInt8 := UInt8.ofNat (Int.toNat (wrap .u8 (a6d .u64 (wrap .u64 (8 * wrap .u64 all)) (wrap .i64 (8 * ((i : Nat) : Int))))))
def a5x (b : List UInt8) (k : Nat) : List UInt8 := (b ++ [128]) ++ replicate k 0
def b2t (b : List UInt8) (p : List UInt8) : Nat -> List UInt8
 | 0 => p
 | i + 1 => b2t b p i ++ [lbU (b.length : Nat) (7 - i)]
def a3h (b : List UInt8) : List UInt8 := b2t b (a5x b (zP b)) 8
def c0t (b p : List UInt8) : ∀ i, (b2t b p i).length = p.length + i
 | 0 => rfl
 | i + 1 => by unfold b2t; rw [B7, c0t b p i]; simp; omega
def f7w (b : List UInt8) : LH D := ⟨Nat, [3], fun _ => [.own 0], fun k => k <= zP b, fun k => zP b - k, [(.sl 3, .u8, 5)], fun k => [.arr .u8 5 (a5x b k)], [], fun _ => []⟩
def c4c : Con D := { ts := [.sl .u8], rt := [.sl .u8], pre := some (fun a => a.1.length <= 1000000), ret := fun a => (a3h a.1, ()) }
def b4h (b : List UInt8) (k : Nat) : (a5x b k).length = b.length + 1 + k := by unfold a5x; simp; omega
def mx5 {n : Nat} (h : n <= 2000000) : Nat.ble (n * j0 Tp 5) d4 = true := by rw [mb5]; exact D3 (by unfold d4; omega)
def c9v {b : List UInt8} {k : Nat} (hk : k <= zP b) : (Int.tmod ((a5x b k).length : Int) 64 != 56) = decide (k < zP b) := by
 rw [b4h, Ax (by omega)]
 unfold zP at *
 by_cases h : k < 63 - (b.length + 8) % 64
 ·simp only [h, O2, Y3, ne_eq]; omega
 ·simp only [h, P3]; have : ((b.length + 1 + k : Nat) : Int) % 64 = 56 := by omega
  rw [this]; rfl
def b0g {b : List UInt8} {i : Nat} (h : b.length <= 1000000) (hi : i <= zP b) (j : Nat) (hj : j <= 8) : Nat.ble (((b2t b (a5x b i) j).length + 1) * j0 Tp 5) d4 = true := mx5 (by rw [c0t, b4h]; unfold zP at hi; omega)
def f7x : c4c.ok Tp 111 := Con.prove (c := c4c) EF Z0 K0 (H := fun a f r => match f, r with | 111, 2 => some (.inv (f7w a.1)) | _, _ => some (.unr 9)) (n := 2) fun (a : HL D c4c.ts) (hp : c4c.holds a) =>
 have hp : a.1.length <= 1000000 := hp
 bN (Nat.ble ((0 + a.1.length) * j0 Tp 5) d4) (mx5 (by omega)) (
 bN (Nat.ble ((a.1.length + 1) * j0 Tp 5) d4) (mx5 (by omega)) (
 And.intro (⟨(0 : Nat), rfl, by show _ = [HB.arr .u8 5 (a5x a.1 0)]; unfold a5x; simp, rfl, C0 _⟩ : Ent (f7w a.1) [.own 0] [.arr .u8 5 (a.1 ++ [128])] [])
 fun (k : Nat) (hk : k <= zP a.1) =>
 bq (Int.tmod ((a5x a.1 k).length : Int) 64 != 56) (fun h2 => have h2' : k < zP a.1 := by rw [c9v hk] at h2; exact A6 h2
  bN (Nat.ble (((a5x a.1 k).length + 1) * j0 Tp 5) d4) (mx5 (by rw [b4h]; unfold zP at hk; omega)) (
  (⟨(k + 1 : Nat), rfl, by show _ = [HB.arr .u8 5 (a5x a.1 (k + 1))]; unfold a5x; rw [List.replicate_succ', <- B6], rfl, h2', by show zP a.1 - (k + 1) < zP a.1 - k; omega⟩ : Rnd (f7w a.1) k [.own 0] [.arr .u8 5 (a5x a.1 k ++ [0])] [])))
 (fun h2 => have h2' : k = zP a.1 := by rw [c9v hk] at h2; have := A9 h2; omega
  brL fun _ : a.1.length <= d4 =>
  bN (Nat.ble (((b2t a.1 (a5x a.1 k) 0).length + 1) * j0 Tp 5) d4) (b0g hp hk 0 (by omega)) (
  bN (Nat.ble (((b2t a.1 (a5x a.1 k) 1).length + 1) * j0 Tp 5) d4) (b0g hp hk 1 (by omega)) (
  bN (Nat.ble (((b2t a.1 (a5x a.1 k) 2).length + 1) * j0 Tp 5) d4) (b0g hp hk 2 (by omega)) (
  bN (Nat.ble (((b2t a.1 (a5x a.1 k) 3).length + 1) * j0 Tp 5) d4) (b0g hp hk 3 (by omega)) (
  bN (Nat.ble (((b2t a.1 (a5x a.1 k) 4).length + 1) * j0 Tp 5) d4) (b0g hp hk 4 (by omega)) (
  bN (Nat.ble (((b2t a.1 (a5x a.1 k) 5).length + 1) * j0 Tp 5) d4) (b0g hp hk 5 (by omega)) (
  bN (Nat.ble (((b2t a.1 (a5x a.1 k) 6).length + 1) * j0 Tp 5) d4) (b0g hp hk 6 (by omega)) (
  bN (Nat.ble (((b2t a.1 (a5x a.1 k) 7).length + 1) * j0 Tp 5) d4) (b0g hp hk 7 (by omega)) (
  (by rw [h2']; rfl : some (b2t a.1 (a5x a.1 k) 8, ()) = some (c4c.ret a)))))))))))))
def b1d : Con D := { ts := [], rt := [.st 14], ret := fun _ => (⟨SL⟩, ()) }
def e5b : b1d.ok Tp 112 := Con.prove (c := b1d) EF Z0 K0 (H := H0) (n := 0) fun (a : HL D b1d.ts) (_ : b1d.holds a) => (rfl : some ((⟨SL⟩ : AV .u32 8), ()) = some (b1d.ret a))
def a7s : Con D := { ts := [], rt := [.st 16], ret := fun _ => (⟨KL⟩, ()) }
def d8v : a7s.ok Tp 149 := Con.prove (c := a7s) EF Z0 K0 (H := H0) (n := 0) fun (a : HL D a7s.ts) (_ : a7s.holds a) => (rfl : some ((⟨KL⟩ : AV .u32 64), ()) = some (a7s.ret a))
def c9w (x : Int) (n : Nat) : Int := a3e .or .u32 (a6d .u32 x (n : Int)) (b3h .u32 x ((32 - n : Nat) : Int))
def ml (x c : Int) : Int := wrap .u32 (wrap .u32 x * c)
def wq (b : List Int) (i j k l : Nat) : Int := ad (ad (ad (ml (gi b i) 16777216) (ml (gi b j) 65536)) (ml (gi b k) 256)) (wrap .u32 (gi b l))
def z6 (b : List Int) : Nat -> List Int
 | 0 => replicate 64 0
 | t + 1 => bif Nat.blt t 16 then (z6 b t).set t (wq b (4 * t) (4 * t + 1) (4 * t + 2) (4 * t + 3)) else (z6 b t).set t (w16 c9w (z6 b t) (t - 16) (t - 15) (t - 7) (t - 2))
def f0f (b : List Int) : LH D := ⟨Nat, [4], fun t => [.i .i64 (t : Nat)], fun t => t <= 16, fun t => 16 - t, [], fun _ => [], [2], fun t => [.box 217 [.vec .u32 64 (z6 b t)]]⟩
def f0g (b : List Int) : LH D := ⟨Nat, [5], fun t => [.i .i64 (t : Nat)], fun t => 16 <= t /\ t <= 64, fun t => 64 - t, [], fun _ => [], [2], fun t => [.box 217 [.vec .u32 64 (z6 b t)]]⟩
def b1e : Con D := { ts := [.st 15], rt := [.st 16], ret := fun a => (⟨z6 a.1.l 64⟩, ()) }
def e4j {t : Nat} (j : Nat) (h : t < 64) (hj : j < 4) : wrap .i64 (wrap .i64 ((4 : Int) * (t : Int)) + (j : Int)) = ((4 * t + j : Nat) : Int) := by rw [e4 h, IntWalk.i64_in _ (by omega)]; omega
def at4 {t : Nat} (j : Nat) (h : t < 16) (hj : j < 4) : (decide (0 <= wrap .i64 (wrap .i64 ((4 : Int) * (t : Int)) + (j : Int))) && decide (wrap .i64 (wrap .i64 ((4 : Int) * (t : Int)) + (j : Int)) < ((64 : Nat) : Int))) = true := by rw [e4j j (by omega) hj]; simp; omega
abbrev B4 (t : Nat) (j : Int) : Int := wrap .i64 (wrap .i64 ((4 : Int) * (t : Int)) + j)
def s1R (b : List Int) {t : Nat} (h : t < 16) : Rnd (f0f b) t [iv (wrap .i64 ((t : Int) + 1))] [] [.box 217 [.vec .u32 64 ((z6 b t).set t (wq b (Int.toNat (A4 t)) (Int.toNat (B4 t 1)) (Int.toNat (B4 t 2)) (Int.toNat (B4 t 3))))]] :=
 ⟨(t + 1 : Nat), by rw [n4 h (by decide)]; rfl, rfl, by
  have : Nat.blt t 16 = true := D3 h; have q1 := e4j 1 (t := t) (by omega) (by omega); have q2 := e4j 2 (t := t) (by omega) (by omega); have q3 := e4j 3 (t := t) (by omega) (by omega); simp only [Y7] at q1 q2 q3; unfold A4 B4; rw [e4 (by omega), <- e4 (t := t) (by omega)] at *; rw [q1, q2, q3, e4 (by omega)]; simp only [f0f, z6, this, B5, G6], by show t + 1 <= 16; omega, by show 16 - (t + 1) < 16 - t; omega⟩
def s2R (b : List Int) {t : Nat} (ht : t < 64) (h16 : 16 <= t) : Rnd (f0g b) t [iv (wrap .i64 ((t : Int) + 1))] [] [.box 217 [.vec .u32 64 ((z6 b t).set t (w16 c9w (z6 b t) (Int.toNat (wrap .i64 ((t : Int) - 16))) (Int.toNat (wrap .i64 ((t : Int) - 15))) (Int.toNat (wrap .i64 ((t : Int) - 7))) (Int.toNat (wrap .i64 ((t : Int) - 2)))))]] :=
 ⟨(t + 1 : Nat), by rw [n4 ht (by decide)]; rfl, rfl, by
  have : Nat.blt t 16 = false := by
   cases h : Nat.blt t 16 with
   | false => rfl
   | true => have : t < 16 := C2 h; omega
  have e1 := eM 16 ht (by omega); have e2 := eM 15 ht (by omega); have e3 := eM 7 ht (by omega); have e4 := eM 2 ht (by omega); simp only [Y7] at e1 e2 e3 e4; rw [e1, e2, e3, e4]; simp only [f0g, z6, this, B8, G6], by show 16 <= t + 1 /\ t + 1 <= 64; omega, by show 64 - (t + 1) < 64 - t; omega⟩
def e5c : b1e.ok Tp 150 := Con.prove (c := b1e) EF Z0 K0 (H := fun a f r => match f, r with | 150, 3 => some (.inv (f0f a.1.l)) | 150, 7 => some (.inv (f0g a.1.l)) | _, _ => none) (n := 2) fun (a : HL D b1e.ts) (_ : b1e.holds a) =>
 And.intro (⟨(0 : Nat), rfl, rfl, rfl, C0 _⟩ : Ent (f0f a.1.l) [iv 0] [] [.box 217 [.vec .u32 64 (replicate 64 0)]])
 fun (t : Nat) (h1 : t <= 16) =>
 bq (decide ((t : Int) < 16)) (fun h2 => have ht : t < 16 := by have := A6 h2; omega
  bN (iX (A4 t) ((64 : Nat) : Int)) (by unfold A4; rw [e4 (by omega)]; simp; omega) (
  bN (iX (B4 t 1) ((64 : Nat) : Int)) (at4 1 ht (by omega)) (
  bN (iX (B4 t 2) ((64 : Nat) : Int)) (at4 2 ht (by omega)) (
  bN (iX (B4 t 3) ((64 : Nat) : Int)) (at4 3 ht (by omega)) (
  bN (iX (t : Int) ((64 : Nat) : Int)) (b2m (by omega)) (
  s1R a.1.l ht))))))
 (fun h2 => have ht : t = 16 := by have := A9 h2; omega
  And.intro (⟨(16 : Nat), rfl, rfl, by rw [ht]; rfl, ⟨B9 _, by omega⟩⟩ : Ent (f0g a.1.l) [iv 16] [] [.box 217 [.vec .u32 64 (z6 a.1.l t)]])
  fun (i : Nat) (h3 : 16 <= i /\ i <= 64) =>
  bq (decide ((i : Int) < 64)) (fun h4 => have hi : i < 64 := by have := A6 h4; omega
   bN (iX (wrap .i64 ((i : Int) - 15)) ((64 : Nat) : Int)) (atM 15 hi (by omega)) (
   bN (iX (wrap .i64 ((i : Int) - 2)) ((64 : Nat) : Int)) (atM 2 hi (by omega)) (
   bN (iX (wrap .i64 ((i : Int) - 16)) ((64 : Nat) : Int)) (atM 16 hi (by omega)) (
   bN (iX (wrap .i64 ((i : Int) - 7)) ((64 : Nat) : Int)) (atM 7 hi (by omega)) (
   bN (iX (i : Int) ((64 : Nat) : Int)) (b2m hi) (
   s2R a.1.l hi h3.1))))))
  (fun h4 => have hi : i = 64 := by have := A9 h4; omega
   (by rw [hi]; rfl : some ((⟨z6 a.1.l i⟩ : AV .u32 64), ()) = some (b1e.ret a))))
def stR (s k w : List Int) : Nat -> List Int
 | 0 => s
 | t + 1 => let x := stR s k w t
  [ad (c2g c9w x k w t) (c0d c9w x), gi x 0, gi x 1, gi x 2, ad (gi x 3) (c2g c9w x k w t), gi x 4, gi x 5, gi x 6]
def a8w (s b : List Int) : List Int := c0e (stR s KL (z6 b 64) 64) s 8
def f7y (s w : List Int) : LH D := ⟨Nat, [8], fun t => [.i .i64 (t : Nat)], fun t => t <= 64, fun t => 64 - t, [], fun _ => [], [7], fun t => [.box 173 [.vec .u32 8 (stR s KL w t)]]⟩
def b1f : Con D := { ts := [.st 14, .st 15], rt := [.st 14], ret := fun a => (⟨a8w a.1.l a.2.1.l⟩, ()) }
abbrev Γq : Nat -> Option (Con D) := i5 (i5 noC 149 a7s) 150 b1e
def Kq : n3 EF Tp Γq noO := (K0.c d8v).c e5c
def e5d : b1f.ok Tp 113 := Con.prove (c := b1f) EF Z0 Kq (H := fun a f r => match f, r with | 113, 4 => some (.inv (f7y a.1.l (z6 a.2.1.l 64))) | 113, _ => some (.unr 9) | _, _ => none) (n := 2) fun (a : HL D b1f.ts) (_ : b1f.holds a) =>
 have tl := And.intro (⟨(0 : Nat), rfl, rfl, rfl, C0 _⟩ : Ent (f7y a.1.l (z6 a.2.1.l 64)) [iv 0] [] [.box 173 [.vec .u32 8 a.1.l]])
  fun (t : Nat) (h1 : t <= 64) =>
  bq (decide ((t : Int) < 64)) (fun h2 => have ht : t < 64 := by have := A6 h2; omega
   bN (iX (t : Int) ((64 : Nat) : Int)) (b2m ht) (
   bN (iX (t : Int) ((64 : Nat) : Int)) (b2m ht) (
   (⟨(t + 1 : Nat), by rw [n4 ht (by decide)]; rfl, rfl, rfl, by show t + 1 <= 64; omega, by show 64 - (t + 1) < 64 - t; omega⟩ : Rnd (f7y a.1.l (z6 a.2.1.l 64)) t [iv (wrap .i64 ((t : Int) + 1))] [] [.box 173 [.vec .u32 8 (stR a.1.l KL (z6 a.2.1.l 64) (t + 1))]]))))
  (fun h2 => have ht : t = 64 := by have := A9 h2; omega
   (by rw [ht]; rfl : some ((⟨c0e (stR a.1.l KL (z6 a.2.1.l 64) t) a.1.l 8⟩ : AV .u32 8), ()) = some (b1f.ret a)))
 And.intro (And.intro (b1n tl) (b1n (b1n tl))) (b1n (And.intro (b1n tl) tl))
def b2b (p : List UInt8) (at_ : Nat) : Nat -> List Int
 | 0 => replicate 64 0
 | i + 1 => (b2b p at_ i).set i ((p.getD (at_ + i) 0).toNat : Nat)
def slP (s : St D) (t : Nat) : Nat := match s.sl.get t with | some (.ptr id _) => id | _ => 0
def e5e (p : List UInt8) : LH D := ⟨Nat, [5], fun k => [.i .i64 ((64 * k : Nat) : Int)], fun k => 64 * k <= p.length, fun k => p.length - 64 * k, [], fun _ => [], [1], fun k => [.box 173 [.vec .u32 8 (a1a a8w k SL (u8s p))]]⟩
def e5f (p : List UInt8) (at_ w : Nat) : LH D := ⟨Nat, [7], fun i => [.i .i64 (i : Nat)], fun i => i <= 64, fun i => 64 - i, [], fun _ => [], [w], fun i => [.box 175 [.vec .u8 64 (b2b p at_ i)]]⟩
def a1w (b : List UInt8) : Dig := dgO (a1a a8w ((a3h b).length / 64) SL (u8s (a3h b))) 32
def b4i : Con D := { ts := [.sl .u8], rt := [.dig], pre := some (fun a => a.1.length <= 1000000), ret := fun a => (a1w a.1, ()) }
abbrev Γof : Nat -> Option (Con D) := i5 (i5 (i5 noC 111 c4c) 112 b1d) 113 b1f
def Kof : n3 EF Tp Γof noO := ((K0.c f7x).c e5b).c e5d
def c9x (b : List UInt8) : (a3h b).length = 64 * ((b.length + 8) / 64 + 1) := by
 unfold a3h; rw [c0t, b4h]; unfold zP; omega
def b5x (p : List UInt8) (a : Nat) : ∀ i, (b2b p a i).length = 64
 | 0 => by simp [b2b]
 | i + 1 => by simp [b2b, b5x p a i]
def c4d (p : List UInt8) (a : Nat) : ∀ (i j : Nat), j < i -> i <= 64 -> (b2b p a i)[j]? = some ((p.getD (a + j) 0).toNat : Int)
 | 0, j, h, _ => by omega
 | i + 1, j, h, hi => by
  unfold b2b; rw [M9]; by_cases e : i = j
  ·subst e; rw [F8 rfl, F8 (by rw [b5x]; omega)]
  ·rw [F7 e]; exact c4d p a i j (by omega) (by omega)
def e5g {p : List UInt8} {a : Nat} (h : a + 64 <= p.length) : b2b p a 64 = ((u8s p).drop a).take 64 := by
 apply J1
 intro j
 by_cases hj : j < 64
 ·rw [c4d p a 64 j hj (by omega), J2, F8 hj, I7, C7, B2 (by omega), B3, B2 (by omega)]
  rfl
 ·rw [I0 (by rw [b5x]; omega), I0 (by simp; omega)]
def d2v (tk : List Int -> List Int -> List Int) (k : Nat) (st xs : List Int) : a1a tk (k + 1) st xs = tk (a1a tk k st xs) ((xs.drop (64 * k)).take 64) := b0z tk k 1 st xs
def e5h {p : List UInt8} {k i : Nat} (hp : p.length <= 2000000) (hk : 64 * k < p.length) (hi : i < 64) : wrap .i64 (((64 * k : Nat) : Int) + (i : Int)) = ((64 * k + i : Nat) : Int) := by
 rw [<- Z7]; exact n9 (by omega)
def c6j : b4i.ok Tp 78 := Con.prove (c := b4i) EF Z0 Kof (H := fun a f r => match f, r with | 78, 4 => some (.inv (e5e (a3h a.1))) | 78, 8 => some (.dep fun st => .inv (e5f (a3h a.1) (slI st 5).toNat (slP st 6))) | _, _ => some (.unr 33)) (n := 2) fun (a : HL D b4i.ts) (hp : b4i.holds a) =>
 have hp : a.1.length <= 1000000 := hp
 pQ (a.1.length <= 1000000) hp (
 And.intro (⟨(0 : Nat), rfl, rfl, rfl, C0 _⟩ : Ent (e5e (a3h a.1)) [iv 0] [] [.box 173 [.vec .u32 8 SL]])
 fun (k : Nat) (h1 : 64 * k <= (a3h a.1).length) =>
 brL fun hl : (a3h a.1).length <= d4 =>
 bq (decide (((64 * k : Nat) : Int) < ((a3h a.1).length : Int))) (fun h2 => have hk : 64 * k < (a3h a.1).length := by have := A6 h2; omega
  have hlen : (a3h a.1).length <= 2000000 := by rw [c9x]; omega
  have h64 : 64 * k + 64 <= (a3h a.1).length := by rw [c9x] at *; omega
  And.intro (⟨(0 : Nat), rfl, rfl, rfl, C0 _⟩ : Ent (e5f (a3h a.1) (64 * k) 4) [iv 0] [] [.box 175 [.vec .u8 64 (replicate 64 0)]])
  fun (i : Nat) (h3 : i <= 64) =>
  bq (decide ((i : Int) < 64)) (fun h4 => have hi : i < 64 := by have := A6 h4; omega
   bN (iX (wrap .i64 (((64 * k : Nat) : Int) + (i : Int))) ((a3h a.1).length : Int)) (by rw [e5h hlen hk hi]; simp; omega) (
   bN (iX (i : Int) ((64 : Nat) : Int)) (b2m hi) (
   (⟨(i + 1 : Nat), by rw [n4 hi (by decide)]; rfl, rfl, by rw [e5h hlen hk hi]; rfl, by show i + 1 <= 64; omega, by show 64 - (i + 1) < 64 - i; omega⟩ : Rnd (e5f (a3h a.1) (64 * k) 4) i [iv (wrap .i64 ((i : Int) + 1))] [] [.box 175 [.vec .u8 64 ((b2b (a3h a.1) (64 * k) i).set i (((a3h a.1).getD (Int.toNat (wrap .i64 (((64 * k : Nat) : Int) + (i : Int)))) 0).toNat : Nat))]]))))
  (fun h4 => have hi : i = 64 := by have := A9 h4; omega
   (⟨(k + 1 : Nat), by rw [show wrap .i64 (((64 * k : Nat) : Int) + 64) = ((64 * (k + 1) : Nat) : Int) from (by rw [show (((64 * k : Nat) : Int) + 64) = ((64 * (k + 1) : Nat) : Int) by omega]; exact n9 (by omega))]; rfl, rfl, by rw [hi, e5g h64]; exact congrArg (fun l => [HB.box (E := D) 173 [.vec .u32 8 l]]) (d2v a8w k SL (u8s (a3h a.1))).symm, by show 64 * (k + 1) <= _; omega, by show (a3h a.1).length - 64 * (k + 1) < (a3h a.1).length - 64 * k; omega⟩ :
    Rnd (e5e (a3h a.1)) k [iv (wrap .i64 (((64 * k : Nat) : Int) + 64))] [] [.box 173 [.vec .u32 8 (a8w (a1a a8w k SL (u8s (a3h a.1))) (b2b (a3h a.1) (64 * k) i))]])))
 (fun h2 => have hk : k = (a3h a.1).length / 64 := by have := A9 h2; omega
  (by rw [hk]; rfl : some (dgO (a1a a8w k SL (u8s (a3h a.1))) 32, ()) = some (b4i.ret a))))
def e5i (k : IntKind) (a b : Int) : a3e .or k a b = a3e .or k b a := by
 unfold a3e; simp only [BitVec.or_comm]
def e5j : c9w = a0a := by
 funext x n; unfold c9w a0a; exact e5i _ _ _
def f0h (x : Int) : wrap .u32 x = x % 4294967296 := by
 simp only [wrap, IntKind.bits, IntKind.signed]; simp
abbrev f8 (acc c : Int) : Int := a3e .or .u32 (b3h .u32 acc 8) (wrap .u32 c)
def or8 {x c : Nat} (hx : x < 16777216) (hc : c < 256) : f8 (x : Int) (c : Int) = ((256 * x + c : Nat) : Int) := by
 have e1 : b3h .u32 (x : Int) 8 = ((256 * x : Nat) : Int) := by
  show wrap .u32 ((x : Int) * 2 ^ 8) = _; rw [f0h]; omega
 have e2 : wrap .u32 (c : Int) = (c : Int) := by rw [f0h]; omega
 unfold f8
 rw [e1, e2]
 show wrap .u32 (((BitVec.ofInt 32 ((256 * x : Nat) : Int) ||| BitVec.ofInt 32 (c : Int)).toNat : Nat) : Int) = _
 rw [BitVec.toNat_or, T7, T7, U3, U3, N3 (by omega), N3 (by omega)]
 have : 2 ^ 8 * x + c = 2 ^ 8 * x ||| c := Nat.two_pow_add_eq_or_of_lt (by omega) x
 rw [show 256 * x = 2 ^ 8 * x by omega, <- this, f0h]; omega
def d2w {w : List Int} {t : Nat} {x : Int} (h : t < w.length) : gi (w.set t x) t = x := by
 unfold gi; rw [B3, List.getElem?_set_self h]; rfl
def d8w {w : List Int} {t j : Nat} {x : Int} (h : t ≠ j) : gi (w.set t x) j = gi w j := by
 unfold gi; rw [B3, List.getElem?_set_ne h, B3]
def wj4 (b w : List Int) {t : Nat} (h : t < w.length) : wj b w t 4 = w.set t (f8 (f8 (f8 (f8 (gi w t) (gi b (4 * t + 0))) (gi b (4 * t + 1))) (gi b (4 * t + 2))) (gi b (4 * t + 3))) := by
 simp only [wj, List.set_set]
 rw [d2w h, d2w h, d2w h]
def isB (b : List Int) : Prop := ∀ i, ∃ c : Nat, c < 256 /\ gi b i = (c : Int)
def g4x {b : List Int} (hb : isB b) (i j k l : Nat) : f8 (f8 (f8 (f8 0 (gi b i)) (gi b j)) (gi b k)) (gi b l) = wq b i j k l := by
 obtain ⟨p, hp, e1⟩ := hb i
 obtain ⟨q, hq, e2⟩ := hb j
 obtain ⟨r, hr, e3⟩ := hb k
 obtain ⟨s, hs, e4⟩ := hb l
 unfold wq ml ad
 rw [e1, e2, e3, e4]
 have z : f8 (0 : Int) (p : Int) = ((256 * 0 + p : Nat) : Int) := or8 (x := 0) (by omega) hp
 rw [z, or8 (by omega) hq, or8 (by omega) hr, or8 (by omega) hs]
 simp only [f0h]; omega
def c0u (b : List Int) : ∀ t, (z6 b t).length = 64
 | 0 => by simp [z6]
 | t + 1 => by
  unfold z6; cases Nat.blt t 16 <;> simp [c0u b t]
def b6v (b : List Int) : ∀ (t j : Nat), t <= j -> j < 64 -> gi (z6 b t) j = 0
 | 0, j, _, h => by unfold z6 gi; rw [B3, List.getElem?_replicate]; simp [h]
 | t + 1, j, h1, h2 => by
  unfold z6; cases Nat.blt t 16 <;> simp only [B5, B8] <;> rw [d8w (by omega)] <;> exact b6v b t j (by omega) h2
def c9y {b : List Int} (hb : isB b) : ∀ t, t <= 64 -> o4 b t = z6 b t
 | 0, _ => rfl
 | t + 1, h => by
  unfold o4 z6; rw [c9y hb t (by omega)]; cases Nat.blt t 16 with
  | true =>
   simp only [B5]; rw [wj4 _ _ (by rw [c0u]; omega), b6v b t t (B9 _) (by omega), g4x hb]; rfl
  | false => simp only [B8]; rw [e5j]
def d5y (s k w : List Int) : ∀ t, stR s k w (t + 1) = stp c9w s k w (t + 1)
 | 0 => rfl
 | t + 1 => by
  unfold stR stp; rw [d5y s k w t]
def f0i (a b : Int) : ad a b = ad b a := by unfold ad; rw [Int.add_comm]
def d8x {s x : List Int} (hs : s.length = 8) (hx : x.length = 8) : c0e x s 8 = c0e s x 8 := by
 match s, hs, x, hx with
 | [a0, a1, a2, a3, a4, a5, a6, a7], _, [b0, b1, b2, b3, b4, b5, b6, b7], _ =>
  show [ad b0 a0, ad b1 a1, ad b2 a2, ad b3 a3, ad b4 a4, ad b5 a5, ad b6 a6, ad b7 a7] = [ad a0 b0, ad a1 b1, ad a2 b2, ad a3 b3, ad a4 b4, ad a5 b5, ad a6 b6, ad a7 b7]; simp only [f0i]
def c9z (s x : List Int) : ∀ i, (c0e s x i).length = s.length
 | 0 => rfl
 | i + 1 => by unfold c0e; rw [P1, c9z s x i]
def f0j (s b : List Int) : (tkK s b).length = s.length := c9z _ _ _
def f0k {s b : List Int} (hs : s.length = 8) (hb : isB b) : a8w s b = tkK s b := by
 unfold a8w tkK c9g
 rw [<- c9y hb 64 (B9 _), d5y s KL (o4 b 64) 63, e5j]
 exact d8x hs rfl
def d0a : ∀ (k : Nat) (s xs : List Int), s.length = 8 -> (∀ x ∈ xs, ∃ c : Nat, c < 256 /\ x = (c : Int)) -> a1a a8w k s xs = a1a tkK k s xs
 | 0, _, _, _, _ => rfl
 | k + 1, s, xs, hs, hx => by
  have hb : isB (xs.take 64) := fun i => by
   unfold gi; rw [B3]; cases hq : (xs.take 64)[i]? with
   | none => exact ⟨0, by omega, rfl⟩
   | some y => exact hx y (T5 (I1 hq))
  show a1a a8w k (a8w s (xs.take 64)) (xs.drop 64) = a1a tkK k (tkK s (xs.take 64)) (xs.drop 64); rw [f0k hs hb]; exact d0a k _ _ (by rw [f0j, hs]) fun x h => hx x (List.mem_of_mem_drop h)
def f0l {b : List UInt8} (h : b.length <= 1000000) : c0i b = (b.length : Int) := by
 unfold c0i; rw [Int.zero_add]; exact n9 (by omega)
def d5z {b : List UInt8} (h : b.length <= 1000000) : u8s (a3h b) = c2f (lbI (c0i b)) b := by
 rw [f0l h]
 unfold a3h c2f lbs
 simp only [b2t, a5x, zP, u8s, F5, C9, L0, List.map_replicate, B6]
 rfl
def d6a {b : List UInt8} (h : b.length <= 1000000) : a1w b = a4d b := by
 unfold a1w a4d
 have hs := f5o tkK (lbI (c0i b)) b SL (f := b.length + 1) (bl := replicate 64 0) (N4 _) (by simp)
 unfold wrW
 rw [hs, d0a _ _ _ rfl, d5z h]
 ·congr 2
  have := congrArg length (d5z h); rw [C5] at this; rw [this]
 ·intro x hx; obtain ⟨y, _, rfl⟩ := E1.1 hx; exact ⟨y.toNat, y.toNat_lt, rfl⟩
abbrev Γak : Nat -> Option (Con D) := i5 (i5 noC 49 a3f) 78 b4i
def Kak : n3 EF Tp Γak noO := (K0.c f7v).c c6j
def Zak : ZF Tp D := (Z0.side Kak).skip
abbrev a5y (from_ : Int) (c : b8) : d7 := b0f from_ c.view c.node (a4d (d9 c))
def c4e : Con D := { ts := [.int, .st 3], rt := [.st 7], pre := some (fun a => isW a.2.1), ret := fun a => (a5y a.1 a.2.1, ()) }
def e5k : c4e.ok Tp 35 := Con.proveS (c := c4e) EF Zak Kak (fun i : Int × (Int × Int × UInt8) => (i.1, m6 i.2.1 i.2.2.1 i.2.2.2, ())) (fun i => b4b i.2) (fun a ⟨j, h, hq⟩ => ⟨(a.1, j), by obtain ⟨x, y, u⟩ := a; have h : y = _ := h; rw [h], hq⟩) (H := fun _ _ _ => some (.unr 40)) (n := 6) fun (i : Int × (Int × Int × UInt8)) (hq : b4b i.2) =>
 have hW : isW (m6 i.2.1 i.2.2.1 i.2.2.2) := ⟨i.2, rfl, hq⟩
 have hl := d5p hW
 pQ (∃ j : Int × Int × UInt8, (m6 i.2.1 i.2.2.1 i.2.2.2, ()) = (m6 j.1 j.2.1 j.2.2, ()) /\ b4b j) ⟨i.2, rfl, hq⟩ (
 brL fun _ : (d9 (m6 i.2.1 i.2.2.1 i.2.2.2)).length <= d4 =>
 bq (decide (65536 < ((d9 (m6 i.2.1 i.2.2.1 i.2.2.2)).length : Int))) (fun h => (by have := A6 h; omega : some (b0f i.1 i.2.2.1 i.2.1 Dig.zero, ()) = some (c4e.ret (i.1, m6 i.2.1 i.2.2.1 i.2.2.2, ())))) (fun _ =>
 pQ ((d9 (m6 i.2.1 i.2.2.1 i.2.2.2)).length <= 1000000) (by omega) (
 bN (Nat.ble ((0 + (d9 (m6 i.2.1 i.2.2.1 i.2.2.2)).length) * j0 Tp 5) d4) (by rw [mb5]; exact D3 (by unfold d4; omega)) (
 (by rw [d6a (by omega)]; rfl : some (b0f i.1 i.2.2.1 i.2.1 (a1w (d9 (m6 i.2.1 i.2.2.1 i.2.2.2))), ()) = some (c4e.ret (i.1, m6 i.2.1 i.2.2.1 i.2.2.2, ())))))))
def a9b : Con D := { ts := [.sl (.st 7), .sl (.st 7)], rt := [.bool], ret := fun a => (eqB (α := d7) a.1 a.2.1, ()) }
def f3l : a9b.ok Tp 66 := Con.prove (c := a9b) EF Zh Kh (H := fun a f r => match f, r with | 66, 4 => some (.inv (a1u (α := d7) a.1 a.2.1 5)) | _, _ => none) (n := 2) fun (a : HL D a9b.ts) (_ : a9b.holds a) =>
 brL fun h1 : a.1.length <= d4 => brL fun h2 : a.2.1.length <= d4 =>
 bq (((a.1.length : Nat) : Int) != ((a.2.1.length : Nat) : Int)) (fun h3 => (by rw [show a9b.ret a = (eqB (α := d7) a.1 a.2.1, ()) from rfl, eqN (α := d7) h3]; rfl : some (false, ()) = some (a9b.ret a)))
 (fun h3 => have hl := b3y (α := d7) (xs := a.1) (ys := a.2.1) h3
 And.intro (⟨(0 : Nat), rfl, rfl, rfl, ⟨C0 _, rfl⟩⟩ : Ent (a1u (α := d7) a.1 a.2.1 5) [iv 0] [] [])
 fun (i : Nat) (hI : i <= a.1.length /\ a.1.take i = a.2.1.take i) =>
 brL fun _ : a.1.length <= d4 =>
 bq (decide ((i : Int) < (a.1.length : Int))) (fun h6 => have hi : i < a.1.length := by have := A6 h6; omega
  bN (iX (i : Int) (a.1.length : Int)) (by simp; omega) (
  bN (iX (i : Int) (a.2.1.length : Int)) (by simp; omega) (
  bq (!dq (α := d7) (getD a.1 (Int.toNat (i : Int)) (Ty.dflt D (.st 7) : d7)) (getD a.2.1 (Int.toNat (i : Int)) (Ty.dflt D (.st 7) : d7))) (fun h7 =>
   (by rw [show a9b.ret a = (eqB (α := d7) a.1 a.2.1, ()) from rfl, a9z (α := d7) (i := i) (d := (Ty.dflt D (.st 7) : d7)) (nde h7)]; rfl : some (false, ()) = some (a9b.ret a)))
  (fun h7 => a4e (α := d7) (xs := a.1) (ys := a.2.1) (k := 5) (d := (Ty.dflt D (.st 7) : d7)) hI hi h1 hl (b3z h7)))))
 (fun h6 => (by rw [show a9b.ret a = (eqB (α := d7) a.1 a.2.1, ()) from rfl, b0a (α := d7) (i := i) (by have := A9 h6; omega) hl hI]; rfl : some (true, ()) = some (a9b.ret a))))
def b4j : Con D := { ts := [.sl (.st 3), .sl (.st 3)], rt := [.bool], ret := fun a => (eqB (α := b8) a.1 a.2.1, ()) }
def f3m : b4j.ok Tp 48 := Con.prove (c := b4j) EF Zh Kh (H := fun a f r => match f, r with | 48, 4 => some (.inv (a1u (α := b8) a.1 a.2.1 5)) | _, _ => none) (n := 2) fun (a : HL D b4j.ts) (_ : b4j.holds a) =>
 brL fun h1 : a.1.length <= d4 => brL fun h2 : a.2.1.length <= d4 =>
 bq (((a.1.length : Nat) : Int) != ((a.2.1.length : Nat) : Int)) (fun h3 => (by rw [show b4j.ret a = (eqB (α := b8) a.1 a.2.1, ()) from rfl, eqN (α := b8) h3]; rfl : some (false, ()) = some (b4j.ret a)))
 (fun h3 => have hl := b3y (α := b8) (xs := a.1) (ys := a.2.1) h3
 And.intro (⟨(0 : Nat), rfl, rfl, rfl, ⟨C0 _, rfl⟩⟩ : Ent (a1u (α := b8) a.1 a.2.1 5) [iv 0] [] [])
 fun (i : Nat) (hI : i <= a.1.length /\ a.1.take i = a.2.1.take i) =>
 brL fun _ : a.1.length <= d4 =>
 bq (decide ((i : Int) < (a.1.length : Int))) (fun h6 => have hi : i < a.1.length := by have := A6 h6; omega
  bN (iX (i : Int) (a.1.length : Int)) (by simp; omega) (
  bN (iX (i : Int) (a.2.1.length : Int)) (by simp; omega) (
  bq (!dq (α := b8) (getD a.1 (Int.toNat (i : Int)) (Ty.dflt D (.st 3) : b8)) (getD a.2.1 (Int.toNat (i : Int)) (Ty.dflt D (.st 3) : b8))) (fun h7 =>
   (by rw [show b4j.ret a = (eqB (α := b8) a.1 a.2.1, ()) from rfl, a9z (α := b8) (i := i) (d := (Ty.dflt D (.st 3) : b8)) (nde h7)]; rfl : some (false, ()) = some (b4j.ret a)))
  (fun h7 => a4e (α := b8) (xs := a.1) (ys := a.2.1) (k := 5) (d := (Ty.dflt D (.st 3) : b8)) hI hi h1 hl (b3z h7)))))
 (fun h6 => (by rw [show b4j.ret a = (eqB (α := b8) a.1 a.2.1, ()) from rfl, b0a (α := b8) (i := i) (by have := A9 h6; omega) hl hI]; rfl : some (true, ()) = some (b4j.ret a))))
abbrev ΓL : Nat -> Option (Con D) := i5 (i5 (i5 (i5 (i5 (i5 (i5 (i5 Γk 34 d5w) 66 a9b) 48 b4j) 23 a3r) 35 c4e) 13 a8h) 14 b2p) 9 a2r
abbrev ΔL : Nat -> Option (i8 D) := u6 (u6 (u6 (u6 (u6 Δc 10 c6i) 12 a4p) 20 a8v) 26 c0s) 11 c2h
abbrev ΛL : Nat -> Option (i8 D) := u6 (u6 (u6 (u6 (fun _ => none) 15 b2r) 22 b2a) 24 c0r) 25 b4e
def KL1 : n3 EF Tp ΓL ΔL := (((((((((((((Kk.c d2u).c f3l).c f3m).c b1c).c e5k).c c9l).c d5h).c c9k).o g4w).o g4v).o f7n).o g4u).o f2v)
def Ll : a0r EF Tp ΛL := (((a0r.nil.o f3j).o e4z).o e4t).o e4v
def ZL : ZF Tp D := (Z0.side KL1).skip
def b7p (k : KD) (n : d7) (want : List d7) : (Bool × Unit) × KD := ((bif (a3g k n).1.2.1 == 0 then eqB (α := d7) (a3g k n).1.1 want else false, ()), (a3g k n).2)
def c4f : i8 D := { ash := [.nm 0, .dat (.st 7), .dat (.sl (.st 7))], es := KS, rsh := [.dat .bool], pes := KS, pre := some (fun a _ => b4c a.1), post := fun a k => b7p k a.1 a.2.1 }
def f7z : c4f.ok EF Tp 47 := i8.proveH (c := c4f) EF ZL (H := fun _ _ _ _ => none) (call := fun _ _ => a4n EF ZL ΛL ΓL ΔL (fun _ _ => none) 3) (fun _ _ => a1b Ll KL1 3) fun (a : CL D c4f.ash) (k : KD) (hp : c4f.holds a k) =>
 pQ (b4c a.1) hp (
 (rfl : some ((bif (a3g k a.1).1.2.1 == 0 then eqB (α := d7) (a3g k a.1).1.1 a.2.1 else false, ()), (a3g k a.1).2) = some (c4f.post a k)))
abbrev ΔM : Nat -> Option (i8 D) := u6 ΔL 47 c4f
def KM1 : n3 EF Tp ΓL ΔM := KL1.o f7z
structure Fct (f me : Int) (ch : List (Int × u5)) (ak : List (x7 × Ack)) (k : KD) : Prop where
  hd : k.1 = (a2j f, me, 1, 1, ())
  ch : kCh k = ch
  ak : kAk k = ak
def b8g {f n : Int} (hf : f = 1 ∨ f = 2) (h1 : 1 <= n) (h2 : n <= 3 * f + 1) : b5w (a2j f) n = true := by
 have := d5x (f := f) (self := n) ⟨hf, h1, h2⟩
 cases h : b5w (a2j f) n with
 | true => rfl
 | false =>
  rw [h] at this; cases a0j (a2j f) != 0 <;> simp at this
section
variable {f me : Int} {ch : List (Int × u5)} {ak : List (x7 × Ack)} {k : KD}
def Fct.cr (h : Fct f me ch ak k) : kCr k = a2j f := by show k.1.1 = _; rw [h.hd]
def Fct.sf (h : Fct f me ch ak k) : kSf k = me := by show k.1.2.1 = _; rw [h.hd]
def Fct.gr (h : Fct f me ch ak k) : kGr k = 1 := by show k.1.2.2.1 = _; rw [h.hd]
def Fct.ep (h : Fct f me ch ak k) : kEp k = 1 := by show k.1.2.2.2.1 = _; rw [h.hd]
def Fct.ink (h : Fct f me ch ak k) (b : List UInt8) : Fct f me ch ak (a1m k b) := ⟨h.hd, h.ch, h.ak⟩
def d8y (h : Fct f me ch ak k) (hf : f = 1 ∨ f = 2) {n v : Int} {b : UInt8} (h1 : 1 <= n) (h2 : n <= 3 * f + 1) (hn : n ≠ me) : a3g k (a0k (m6 n v b)) = a7r k (a0k (m6 n v b)) := by
 unfold a3g
 rw [h.gr, h.ep, h.cr, h.sf]
 show (bif (bif !((7 : Int) == 8) then (7 : Int) != 7 else false) then _ else bif (1 : Int) != 1 then _ else bif (1 : Int) != 1 then _ else bif !b5w (a2j f) n then _ else bif n == me then _ else bif (7 : Int) == 8 then _ else _) = _
 rw [b8g hf h1 h2, show (n == me) = false by simpa using hn]
 rfl
def e5l (h : Fct f me ch ak k) (hf : f = 1 ∨ f = 2) {x : Int} {c : b8} (h1 : 1 <= x) (h2 : x <= 3 * f + 1) (hn : x ≠ me) (h3 : 1 <= c.node) (h4 : c.node <= 3 * f + 1) : a3g k (a5y x c) = (([], (a0t k (a5y x c)).1.1, ()), (a0t k (a5y x c)).2) := by
 unfold a3g
 rw [h.gr, h.ep, h.cr, h.sf]
 show (bif (bif !((8 : Int) == 8) then (8 : Int) != 7 else false) then _ else bif (1 : Int) != 1 then _ else bif (1 : Int) != 1 then _ else bif !b5w (a2j f) x then _ else bif x == me then _ else bif (8 : Int) == 8 then (bif !b5w (a2j f) c.node then _ else _) else _) = _
 rw [b8g hf h1 h2, b8g hf h3 h4, show (x == me) = false by simpa using hn]
 rfl
def d8z (h : Fct f me ch ak k) {n v : Int} {b : UInt8} (hv : (sd ch n).change.view < v) : (a7r k (a0k (m6 n v b))).1 = ([a5y me (m6 n v b)], 0, ()) /\ Fct f me (j6 (E := D) .int (.st 8) ch n (dgS (m6 n v b))) ak (a7r k (a0k (m6 n v b))).2 := by
 have e : a7r k (a0k (m6 n v b)) = (([a2i k (dgS (m6 n v b))], 0, ()), c0q (a1m k (d9 (m6 n v b))) (j6 (E := D) .int (.st 8) (kCh k) n (dgS (m6 n v b)))) := by
  unfold a7r; rw [h.ch]; show (bif decide (v < (sd ch n).change.view) then _ else bif (bif (sd ch n).change.view == v then !dq (α := b8) (sd ch n).change (m6 n v b) else false) then _ else bif (sd ch n).change.view == v then _ else _) = _; rw [show decide (v < (sd ch n).change.view) = false by simp; omega, show ((sd ch n).change.view == v) = false by simp; omega]
  rfl
 rw [e]
 refine ⟨?_, ⟨h.hd, by show j6 (E := D) .int (.st 8) (kCh k) n _ = _; rw [h.ch], h.ak⟩⟩
 show ([a2i k (dgS (m6 n v b))], 0, ()) = _
 unfold a2i
 rw [h.sf, h.gr, h.ep]
 rfl
end
def KZ (f me : Int) (ch : List (Int × u5)) (ak : List (x7 × Ack)) : KD := ((a2j f, me, 1, 1, ()), (0, ()), ch, ak, [], [], ())
section
variable {f me : Int} {ch : List (Int × u5)} {ak : List (x7 × Ack)} {k : KD}
def Fct.open (h : Fct f me ch ak k) : ∃ c s m, k = ((a2j f, me, 1, 1, ()), c, ch, ak, s, m, ()) := by
 obtain ⟨a, c, x, y, s, m, ⟨⟩⟩ := k
 obtain ⟨h1, h2, h3⟩ := h
 have h1 : a = _ := h1
 have h2 : x = ch := h2
 have h3 : y = ak := h3
 subst h1 h2 h3
 exact ⟨c, s, m, rfl⟩
def Fct.rdy (h : Fct f me ch ak k) (v : Int) : a1x k v (u7 k) = a1x (KZ f me ch ak) v (u7 (KZ f me ch ak)) := by
 obtain ⟨c, x, m, rfl⟩ := h.open; rfl
def Fct.jn (h : Fct f me ch ak k) (v : Int) : jnP k v = jnP (KZ f me ch ak) v := by
 obtain ⟨c, x, m, rfl⟩ := h.open; rfl
def Fct.bh (h : Fct f me ch ak k) (v : Int) : bhC k v (z8 k) = bhC (KZ f me ch ak) v (z8 (KZ f me ch ak)) := by
 obtain ⟨c, x, m, rfl⟩ := h.open; rfl
def Fct.vch (h : Fct f me ch ak k) (c : b8) : a9a k c = a9a (KZ f me ch ak) c := by
 obtain ⟨c, x, m, rfl⟩ := h.open; rfl
def d9a (h : Fct f me ch ak k) {x v n : Int} {d : Dig} (hv : (akG ak ⟨x, n⟩).view < v) : (a0t k (b0f x v n d)).1.1 = 0 /\ Fct f me ch (j6 (E := D) (.st 10) (.st 9) ak ⟨x, n⟩ ⟨v, d⟩) (a0t k (b0f x v n d)).2 := by
 have e : a0t k (b0f x v n d) = ((0, ()), f7j k (j6 (E := D) (.st 10) (.st 9) (kAk k) ⟨x, n⟩ ⟨v, d⟩)) := by
  unfold a0t; rw [h.ak]; show (bif decide (v < (akG ak ⟨x, n⟩).view) then _ else bif (bif (akG ak ⟨x, n⟩).view == v then _ else false) then _ else _) = _; rw [show decide (v < (akG ak ⟨x, n⟩).view) = false by simp; omega, show ((akG ak ⟨x, n⟩).view == v) = false by simp; omega]
  rfl
 rw [e]
 exact ⟨rfl, ⟨h.hd, h.ch, by show j6 (E := D) (.st 10) (.st 9) (kAk k) _ _ = _; rw [h.ak]⟩⟩
def Fct.okK (h : Fct f me ch ak k) (hf : f = 1 ∨ f = 2) (hl : ch.length <= 1000) (hc : ∀ p ∈ ch, okC p.2.change /\ -1000000 <= p.1 /\ p.1 <= 1000000) : okK k := by
 obtain ⟨c, x, m, rfl⟩ := h.open
 refine ⟨c4b f, ?_, ?_, hl, hc⟩
 ·show 1 <= a1g (a2j f); rcases hf with rfl | rfl <;> decide
 ·show a1g (a2j f) <= 1000000; rcases hf with rfl | rfl <;> decide
end
def nmd {α : Type} {a : α} {K : α -> Prop} (h : ∀ q, a = q -> K q) : Nmd a K := ⟨h⟩
theorem nM {α : Type} (a : α) {K : α -> Prop} (h : ∀ q, a = q -> K q) : Nmd a K := .mk h
abbrev a0b : b8 := m6 1 2 1
abbrev a1q : b8 := m6 3 2 3
abbrev x8 : b8 := m6 4 2 4
def d6b {k : KD} {s : u5} {wo x : Int} (h1 : x ≠ wo) (h2 : x ≠ kSf k) (h : akG (kAk k) ⟨x, s.change.node⟩ = ⟨s.change.view, s.dig⟩) : hrB k s wo x = true := by
 unfold hrB
 rw [show (x == wo) = false by simpa using h1, show (x == kSf k) = false by simpa using h2, h]
 simp
section
variable (d e g : Dig)
def aw1 : a1x (KZ 1 2 [(1, ⟨a0b, d⟩)] []) 2 (u7 (KZ 1 2 [(1, ⟨a0b, d⟩)] [])) = [] := rfl
def aw2 : hrN (KZ 1 2 [(1, ⟨a0b, d⟩)] [(⟨3, 1⟩, ⟨2, d⟩)]) ⟨a0b, d⟩ 2 = 1 := by
 have h3 : hrB (KZ 1 2 [(1, ⟨a0b, d⟩)] [(⟨3, 1⟩, ⟨2, d⟩)]) ⟨a0b, d⟩ 2 3 = true := d6b (show (3 : Int) ≠ 2 by decide) (show (3 : Int) ≠ 2 by decide) rfl
 have h2 : hrB (KZ 1 2 [(1, ⟨a0b, d⟩)] [(⟨3, 1⟩, ⟨2, d⟩)]) ⟨a0b, d⟩ 2 2 = false := rfl
 have h4 : hrB (KZ 1 2 [(1, ⟨a0b, d⟩)] [(⟨3, 1⟩, ⟨2, d⟩)]) ⟨a0b, d⟩ 2 4 = false := rfl
 show [2, 3, 4].countP _ = 1
 simp [M7, h2, h3, h4]
def aw3 : a1x (KZ 1 2 [(1, ⟨a0b, d⟩)] [(⟨3, 1⟩, ⟨2, d⟩)]) 2 (u7 (KZ 1 2 [(1, ⟨a0b, d⟩)] [(⟨3, 1⟩, ⟨2, d⟩)])) = [a0b] := by
 have h : rdyB (KZ 1 2 [(1, ⟨a0b, d⟩)] [(⟨3, 1⟩, ⟨2, d⟩)]) 2 1 = true := by
  show (bif (2 : Int) == 2 then (bif (1 : Int) == 2 then true else decide (f0d (KZ 1 2 [(1, ⟨a0b, d⟩)] [(⟨3, 1⟩, ⟨2, d⟩)]) <= (hrN (KZ 1 2 [(1, ⟨a0b, d⟩)] [(⟨3, 1⟩, ⟨2, d⟩)]) ⟨a0b, d⟩ 2 : Int))) else false) = true; rw [aw2]; rfl
 show (([(1 : Int)].filter (rdyB (KZ 1 2 [(1, ⟨a0b, d⟩)] [(⟨3, 1⟩, ⟨2, d⟩)]) 2)).map fun x => (sd [(1, ⟨a0b, d⟩)] x).change) = [a0b]
 rw [K9, F8 h]
 rfl
def aw4 (ak : List (x7 × Ack)) : jnP (KZ 1 2 [(1, ⟨a0b, d⟩)] ak) 0 = (0, false, ()) := rfl
def aw5 (ak : List (x7 × Ack)) : jnP (KZ 1 2 [(1, ⟨a0b, d⟩), (3, ⟨a1q, e⟩)] ak) 0 = (2, true, ()) := rfl
def aw6 (ak : List (x7 × Ack)) : jnP (KZ 1 2 [(1, ⟨a0b, d⟩), (3, ⟨a1q, e⟩)] ak) 2 = (0, false, ()) := rfl
def aw7 (ak : List (x7 × Ack)) : bhC (KZ 1 2 [(1, ⟨a0b, d⟩), (3, ⟨a1q, e⟩)] ak) 2 (z8 (KZ 1 2 [(1, ⟨a0b, d⟩), (3, ⟨a1q, e⟩)] ak)) = 2 := rfl
def aw8 (ak : List (x7 × Ack)) : bhC (KZ 1 2 [(1, ⟨a0b, d⟩), (3, ⟨a1q, e⟩)] ak) 3 (z8 (KZ 1 2 [(1, ⟨a0b, d⟩), (3, ⟨a1q, e⟩)] ak)) = 0 := rfl
abbrev chT : List (Int × u5) := [(1, ⟨a0b, d⟩), (3, ⟨a1q, e⟩)]
def aw9 : a9a (KZ 1 2 (chT d e) [(⟨3, 1⟩, ⟨2, d⟩)]) x8 = false := by
 have h1 : hrB (KZ 1 2 (chT d e) [(⟨3, 1⟩, ⟨2, d⟩)]) (dgS x8) 0 1 = false := rfl
 have h2 : hrB (KZ 1 2 (chT d e) [(⟨3, 1⟩, ⟨2, d⟩)]) (dgS x8) 0 2 = false := rfl
 have h3 : hrB (KZ 1 2 (chT d e) [(⟨3, 1⟩, ⟨2, d⟩)]) (dgS x8) 0 3 = false := rfl
 have h : hrN (KZ 1 2 (chT d e) [(⟨3, 1⟩, ⟨2, d⟩)]) (dgS x8) 0 = 0 := by
  show [1, 2, 3].countP _ = 0; simp [M7, h1, h2, h3]
 show (bif false then true else decide (2 <= (hrN (KZ 1 2 (chT d e) [(⟨3, 1⟩, ⟨2, d⟩)]) (dgS x8) 0 : Int))) = false
 rw [h]; rfl
abbrev akA : List (x7 × Ack) := [(⟨3, 1⟩, ⟨2, d⟩), (⟨1, 4⟩, ⟨2, (dgS x8).dig⟩)]
def g7w : a9a (KZ 1 2 (chT d e) (akA d)) x8 = false := by
 have h1 : hrB (KZ 1 2 (chT d e) (akA d)) (dgS x8) 0 1 = true := d6b (show (1 : Int) ≠ 0 by decide) (show (1 : Int) ≠ 2 by decide) rfl
 have h2 : hrB (KZ 1 2 (chT d e) (akA d)) (dgS x8) 0 2 = false := rfl
 have h3 : hrB (KZ 1 2 (chT d e) (akA d)) (dgS x8) 0 3 = false := rfl
 have h : hrN (KZ 1 2 (chT d e) (akA d)) (dgS x8) 0 = 1 := by
  show [1, 2, 3].countP _ = 1; simp [M7, h1, h2, h3]
 show (bif false then true else decide (2 <= (hrN (KZ 1 2 (chT d e) (akA d)) (dgS x8) 0 : Int))) = false
 rw [h]; rfl
abbrev akB : List (x7 × Ack) := [(⟨3, 1⟩, ⟨2, d⟩), (⟨1, 4⟩, ⟨2, (dgS x8).dig⟩), (⟨3, 4⟩, ⟨2, (dgS x8).dig⟩)]
def g7x : a9a (KZ 1 2 (chT d e) (akB d)) x8 = true := by
 have h1 : hrB (KZ 1 2 (chT d e) (akB d)) (dgS x8) 0 1 = true := d6b (show (1 : Int) ≠ 0 by decide) (show (1 : Int) ≠ 2 by decide) rfl
 have h2 : hrB (KZ 1 2 (chT d e) (akB d)) (dgS x8) 0 2 = false := rfl
 have h3 : hrB (KZ 1 2 (chT d e) (akB d)) (dgS x8) 0 3 = true := d6b (show (3 : Int) ≠ 0 by decide) (show (3 : Int) ≠ 2 by decide) rfl
 have h : hrN (KZ 1 2 (chT d e) (akB d)) (dgS x8) 0 = 2 := by
  show [1, 2, 3].countP _ = 2; simp [M7, h1, h2, h3]
 show (bif false then true else decide (2 <= (hrN (KZ 1 2 (chT d e) (akB d)) (dgS x8) 0 : Int))) = true
 rw [h]; rfl
end
section
variable {κ β : Type} [DecidableEq κ]
def e5m {l : List (κ × β)} (hn : (l.map (·.1)).Nodup) {p : κ × β} (hp : p ∈ l) : a0y l p.1 = some p.2 := by
 induction l with
 | nil => cases hp
 | cons q r ih =>
  rw [C9, L5] at hn; unfold a0y; rcases D2.1 hp with e | h
  ·subst e; rw [F8 rfl]
  ·have : q.1 ≠ p.1 := fun e => hn.1 (by rw [e]; exact List.mem_map_of_mem h)
   rw [F7 this]; exact ih hn.2 h
def a5z {l : List (κ × β)} {x y : κ} {v : β} : a0y (a2t l x v) y = if x = y then some v else a0y l y := by
 induction l with
 | nil => simp [a2t, a0y]
 | cons q r ih =>
  unfold a2t; by_cases e : q.1 = x
  ·rw [F8 e]; unfold a0y; by_cases e2 : x = y
   ·simp [e2]
   ·have : q.1 ≠ y := by rw [e]; exact e2
    simp [e2, this]
  ·rw [F7 e]; unfold a0y; rw [ih]; by_cases e2 : q.1 = y
   ·have : x ≠ y := by rw [<- e2]; exact fun h => e h.symm
    simp [e2, this]
   ·simp [e2]
end
abbrev d0b (l : List (Int × u5)) (n : Int) (s : u5) : List (Int × u5) := j6 (E := D) .int (.st 8) l n s
def f0m {l : List (Int × u5)} {n x : Int} {s : u5} : sdO (d0b l n s) x = if n = x then some s else sdO l x := by
 have := @a5z Int u5 (Ty.dec D .int) l n x s
 refine Eq.trans this ?_
 by_cases e : n = x
 ·rw [F8 e, F8 e]
 ·rw [F7 e, F7 e]; rfl
def d0c {l : List (Int × u5)} {n : Int} {s : u5} (h : (l.map fun p : Int × u5 => p.1).Nodup) : ((d0b l n s).map fun p : Int × u5 => p.1).Nodup :=
 @a5n Int (Ty.dec D .int) u5 l n s h
def d2x {l : List (Int × u5)} (hn : (l.map fun p : Int × u5 => p.1).Nodup) {p : Int × u5} (hp : p ∈ l) : sdO l p.1 = some p.2 :=
 @e5m Int u5 (Ty.dec D .int) l hn p hp
abbrev akO (l : List (x7 × Ack)) (p : x7) : Option Ack := a0f (E := D) (.st 10) (.st 9) l p
abbrev d6c (l : List (x7 × Ack)) (p : x7) (a : Ack) : List (x7 × Ack) := j6 (E := D) (.st 10) (.st 9) l p a
def f0n {l : List (x7 × Ack)} {p q : x7} {a : Ack} (h : p ≠ q) : akO (d6c l p a) q = akO l q := by
 have := @a5z x7 Ack (Ty.dec D (.st 10)) l p q a
 refine Eq.trans this ?_
 rw [F7 h]; rfl
def d2y {l : List (x7 × Ack)} {p : x7} {a : Ack} : akO (d6c l p a) p = some a := by
 have := @a5z x7 Ack (Ty.dec D (.st 10)) l p p a
 refine Eq.trans this ?_
 rw [F8 rfl]
def f8a {A B : List Int} {x : Int} (h : (A ++ x :: B).Pairwise (· <= ·)) : B.length + 1 <= (A ++ x :: B).countP fun y => decide (x <= y) := by
 have h2 := (M2.1 (P5.1 h).2.1).1
 rw [M3, M7]
 have : B.countP (fun y => decide (x <= y)) = B.length := List.countP_eq_length.2 fun y hy => by simpa using h2 y hy
 rw [this]
 simp
def f8b {A B : List Int} {x w : Int} (h : (A ++ x :: B).Pairwise (· <= ·)) (hw : B.length + 1 <= (A ++ x :: B).countP fun y => decide (w <= y)) : w <= x := by
 apply Decidable.byContradiction
 intro hx
 have h2 := (P5.1 h).2.2
 rw [M3, M7] at hw
 have h3 : A.countP (fun y => decide (w <= y)) = 0 := Y0.2 fun y hy => by
  have := h2 y hy x E7
  simp; omega
 have h4 : B.countP (fun y => decide (w <= y)) <= B.length := O7
 rw [h3] at hw
 have : decide (w <= x) = false := by simpa using hx
 simp [this] at hw
 omega
def spl {S : List Int} {i : Nat} (hi : i < S.length) : ∃ A B x, S = A ++ x :: B /\ A.length = i /\ S.getD i 0 = x /\ B.length + 1 = S.length - i := by
 refine ⟨S.take i, S.drop (i + 1), S[i], ?_, by simp; omega, ?_, by simp; omega⟩
 ·rw [<- G9 hi, E6]
 ·rw [B3, B2 hi]; rfl
def brg (x n : Int) : Int := (c6a (x, n, ())).1
def f8c {x n : Int} (h1 : 0 < n) (h2 : n <= 1000000) : 0 <= brg x n /\ brg x n < n := by
 unfold brg c6a
 have e : decide (n <= (0 : Int)) = false := by simp; omega
 have hlt : Int.tmod x n < n := Int.tmod_lt_of_pos x h1
 have hgt : -n < Int.tmod x n := Int.lt_tmod_of_pos x h1
 simp only [e, B8]
 cases hd : decide (Int.tmod x n < 0) with
 | true =>
  have h3 : Int.tmod x n < 0 := A6 hd; simp only [B5]; rw [IntWalk.i64_in _ (by omega)]; omega
 | false => have := A9 hd; simp only [B8]; omega
section
variable {F : Nat} (hF : F = 1 ∨ F = 2) {l : List Int}
include hF
end
abbrev kP (p : EL D PS) : KD := (p.2.2.2.1, p.1, p.2.2.2.2.1, p.2.2.2.2.2.1, p.2.1, p.2.2.1, ())
section
variable {f me : Int} {ch : List (Int × u5)} {ak : List (x7 × Ack)} {k : KD}
def d0d (h : Fct f me ch ak k) (hf : f = 1 ∨ f = 2) {n v : Int} {b : UInt8} (h1 : 1 <= n) (h2 : n <= 3 * f + 1) (hn : n ≠ me) (hv : (sd ch n).change.view < v) :
  (b7p k (a0k (m6 n v b)) [a5y me (m6 n v b)]).1.1 = true /\ Fct f me (j6 (E := D) .int (.st 8) ch n (dgS (m6 n v b))) ak (b7p k (a0k (m6 n v b)) [a5y me (m6 n v b)]).2 := by
 unfold b7p
 rw [d8y h hf h1 h2 hn]
 obtain ⟨g1, g2⟩ := d8z h (b := b) hv
 refine ⟨?_, g2⟩
 show (bif (a7r k (a0k (m6 n v b))).1.2.1 == 0 then eqB (a7r k (a0k (m6 n v b))).1.1 _ else false) = true
 rw [g1]
 show eqB [a5y me (m6 n v b)] [a5y me (m6 n v b)] = true
 unfold eqB; simp
def c6k (h : Fct f me ch ak k) (hf : f = 1 ∨ f = 2) {x : Int} {c : b8} (h1 : 1 <= x) (h2 : x <= 3 * f + 1) (hn : x ≠ me) (h3 : 1 <= c.node) (h4 : c.node <= 3 * f + 1) (hv : (akG ak ⟨x, c.node⟩).view < c.view) :
  (b7p k (a5y x c) []).1.1 = true /\ Fct f me ch (j6 (E := D) (.st 10) (.st 9) ak ⟨x, c.node⟩ ⟨c.view, (dgS c).dig⟩) (b7p k (a5y x c) []).2 := by
 unfold b7p
 rw [e5l h hf h1 h2 hn h3 h4]
 obtain ⟨g1, g2⟩ := d9a h (d := (dgS c).dig) hv
 refine ⟨?_, g2⟩
 show (bif (a0t k (b0f x c.view c.node (dgS c).dig)).1.1 == 0 then eqB ([] : List d7) [] else false) = true
 rw [g1]; rfl
def c0v (h : Fct f me ch ak k) (hf : f = 1 ∨ f = 2) {c : b8} (h3 : 1 <= c.node) (h4 : c.node <= 3 * f + 1) : (c2i k c).1.1 = a9a (KZ f me ch ak) c /\ Fct f me ch ak (c2i k c).2 := by
 have e : c2i k c = ((a9a k c, ()), a1m k (d9 c)) := by
  unfold c2i; rw [h.cr, b8g hf h3 h4]; rfl
 rw [e]
 exact ⟨h.vch c, h.ink _⟩
def c0w (x n v : Nat) (d : Dig) (h1 : x + 1 <= 28) (h2 : v + 1 <= 255) (h3 : n + 1 <= 28) (h4 : x ≠ n) : b4c (b0f ((x + 1 : Nat) : Int) ((v + 1 : Nat) : Int) ((n + 1 : Nat) : Int) d) :=
 .inr ⟨(x, v, n, fun j => d.l.getD j 0), congrArg (b0f ((x + 1 : Nat) : Int) ((v + 1 : Nat) : Int) ((n + 1 : Nat) : Int)) (f7f d), h1, h2, h3, h4⟩
end
def W1 : isW a0b := ⟨(1, 2, 1), rfl, by decide, by decide, by decide, by decide⟩
def W3 : isW a1q := ⟨(3, 2, 3), rfl, by decide, by decide, by decide, by decide⟩
def W4 : isW x8 := ⟨(4, 2, 4), rfl, by decide, by decide, by decide, by decide⟩
def f0o {d e : Dig} : ∀ p ∈ chT d e, okC p.2.change /\ -1000000 <= p.1 /\ p.1 <= 1000000 := by
 intro p hp
 simp only [chT, D2, H4, R1] at hp
 rcases hp with rfl | rfl
 ·exact ⟨b4d W1, show (-1000000 : Int) <= 1 by decide, show (1 : Int) <= 1000000 by decide⟩
 ·exact ⟨b4d W3, show (-1000000 : Int) <= 3 by decide, show (3 : Int) <= 1000000 by decide⟩
def f3n {d : Dig} : ∀ p ∈ [((1 : Int), (⟨a0b, d⟩ : u5))], okC p.2.change /\ -1000000 <= p.1 /\ p.1 <= 1000000 := by
 intro p hp
 rw [F3] at hp
 subst hp
 exact ⟨b4d W1, show (-1000000 : Int) <= 1 by decide, show (1 : Int) <= 1000000 by decide⟩
def d0e : Con D := { ts := [], rt := [.bool], ret := fun _ => (true, ()) }
def f8d : d0e.ok Tp 16 := Con.proveH (c := d0e) EF ZL (H := fun _ _ _ => none) (call := fun _ => a3q EF ZL ΛL ΓL ΔM (fun _ _ => none) 4) (fun _ => a0q Ll KM1 4) fun (a : HL D d0e.ts) (_ : d0e.holds a) =>
 have hf : (1 : Int) = 1 ∨ (1 : Int) = 2 := .inl rfl
 nM (c2h.post () ()) (fun q1 _ =>
 pQ (okF 1 2) ⟨.inl rfl, by decide, by decide⟩ (
 nM (c6i.post ((1 : Int), (2 : Int), ()) q1.2) (fun q2 h2 =>
 have F0 : Fct 1 2 [] [] (kP q2.2) := by rw [<- h2]; exact ⟨rfl, rfl, rfl⟩
 pQ (isW a0b) W1 (
 pQ (b4c (a0k a0b)) (.inl ⟨(0, 1, 1), rfl, by decide, by decide⟩) (
 nM (b7p (kP q2.2) (a0k a0b) [a5y 2 a0b]) (fun q3 h3 =>
 have G3 : q3.1.1 = true /\ Fct 1 2 [(1, dgS a0b)] [] q3.2 := by rw [<- h3]; exact d0d F0 hf (by decide) (by decide) (by decide) (by decide)
 bq (!q3.1.1) (fun h => (by rw [G3.1] at h; exact absurd h (by decide) : some (false, ()) = some (true, ()))) (fun _ =>
 have O3 := G3.2.okK hf (by decide) f3n
 pQ (okK q3.2) O3 (
 nM (a1x q3.2 2 (u7 q3.2), ()) (fun q5 h5 =>
 have G5 : q5.1 = [] := by rw [<- h5]; exact (G3.2.rdy 2).trans (aw1 _)
 brL fun _ : q5.1.length <= d4 =>
 bq (((q5.1.length : Nat) : Int) != 0) (fun h => (by rw [G5] at h; exact absurd h (by decide) : some (false, ()) = some (true, ()))) (fun _ =>
 pQ (isW a0b) W1 (
 pQ (b4c (a5y 3 a0b)) (c0w 2 0 1 _ (by decide) (by decide) (by decide) (by decide)) (
 nM (b7p q3.2 (a5y 3 a0b) []) (fun q8 h8 =>
 have G8 : q8.1.1 = true /\ Fct 1 2 [(1, dgS a0b)] [(⟨3, 1⟩, ⟨2, (dgS a0b).dig⟩)] q8.2 := by rw [<- h8]; exact c6k G3.2 hf (by decide) (by decide) (by decide) (by decide) (by decide) (by decide)
 bq (!q8.1.1) (fun h => (by rw [G8.1] at h; exact absurd h (by decide) : some (false, ()) = some (true, ()))) (fun _ =>
 have O8 := G8.2.okK hf (by decide) f3n
 b1n (pQ (okK q8.2) O8 (
 nM (a1x q8.2 2 (u7 q8.2), ()) (fun q10 h10 =>
 have G10 : q10.1 = [a0b] := by rw [<- h10]; exact (G8.2.rdy 2).trans (aw3 _)
 bq (!eqB (α := b8) q10.1 [a0b]) (fun h => (by rw [G10] at h; unfold eqB at h; simp at h : some (false, ()) = some (true, ()))) (fun _ =>
 pQ (okK q8.2) O8 (
 nM (jnP q8.2 0) (fun q12 h12 =>
 have G12 : q12 = (0, false, ()) := by rw [<- h12]; exact (G8.2.jn 0).trans (aw4 _ _)
 pQ (isW a1q) W3 (
 pQ (b4c (a0k a1q)) (.inl ⟨(2, 1, 3), rfl, by decide, by decide⟩) (
 nM (b7p q8.2 (a0k a1q) [a5y 2 a1q]) (fun q13 h13 =>
 have G13 : q13.1.1 = true /\ Fct 1 2 (chT (dgS a0b).dig (dgS a1q).dig) [(⟨3, 1⟩, ⟨2, (dgS a0b).dig⟩)] q13.2 := by rw [<- h13]; exact d0d G8.2 hf (by decide) (by decide) (by decide) (by decide)
 have O13 := G13.2.okK hf (by decide) f0o
 pQ (okK q13.2) O13 (
 nM (jnP q13.2 0) (fun q14 h14 =>
 have G14 : q14 = (2, true, ()) := by rw [<- h14]; exact (G13.2.jn 0).trans (aw5 _ _ _)
 pQ (okK q13.2) O13 (
 nM (jnP q13.2 2) (fun q15 h15 =>
 have G15 : q15 = (0, false, ()) := by rw [<- h15]; exact (G13.2.jn 2).trans (aw6 _ _ _)
 pQ (isW x8 /\ okK q13.2) ⟨W4, O13⟩ (
 nM (c2i q13.2 x8) (fun q16 h16 =>
 have G16 : q16.1.1 = false /\ Fct 1 2 (chT (dgS a0b).dig (dgS a1q).dig) [(⟨3, 1⟩, ⟨2, (dgS a0b).dig⟩)] q16.2 := by rw [<- h16]; have := c0v G13.2 hf (c := x8) (by decide) (by decide); exact ⟨this.1.trans (aw9 _ _), this.2⟩
 bq (bif bif bif bif bif !q12.2.1 then q13.1.1 else false then q14.2.1 else false then q14.1 == 2 else false then !q15.2.1 else false then !q16.1.1 else false) (fun _ =>
 pQ (isW x8) W4 (
 pQ (b4c (a5y 1 x8)) (c0w 0 3 1 _ (by decide) (by decide) (by decide) (by decide)) (
 nM (b7p q16.2 (a5y 1 x8) []) (fun q18 h18 =>
 have G18 : q18.1.1 = true /\ Fct 1 2 (chT (dgS a0b).dig (dgS a1q).dig) (akA (dgS a0b).dig) q18.2 := by rw [<- h18]; exact c6k G16.2 hf (by decide) (by decide) (by decide) (by decide) (by decide) (by decide)
 bq (q18.1.1) (fun _ =>
 have O18 := G18.2.okK hf (by decide) f0o
 pQ (isW x8 /\ okK q18.2) ⟨W4, O18⟩ (
 nM (c2i q18.2 x8) (fun q20 h20 =>
 have G20 : q20.1.1 = false /\ Fct 1 2 (chT (dgS a0b).dig (dgS a1q).dig) (akA (dgS a0b).dig) q20.2 := by rw [<- h20]; have := c0v G18.2 hf (c := x8) (by decide) (by decide); exact ⟨this.1.trans (g7w _ _), this.2⟩
 bq (!q20.1.1) (fun _ =>
 pQ (isW x8) W4 (
 pQ (b4c (a5y 3 x8)) (c0w 2 3 1 _ (by decide) (by decide) (by decide) (by decide)) (
 nM (b7p q20.2 (a5y 3 x8) []) (fun q22 h22 =>
 have G22 : q22.1.1 = true /\ Fct 1 2 (chT (dgS a0b).dig (dgS a1q).dig) (akB (dgS a0b).dig) q22.2 := by rw [<- h22]; exact c6k G20.2 hf (by decide) (by decide) (by decide) (by decide) (by decide) (by decide)
 bq (q22.1.1) (fun _ =>
 have O22 := G22.2.okK hf (by decide) f0o
 pQ (isW x8 /\ okK q22.2) ⟨W4, O22⟩ (
 nM (c2i q22.2 x8) (fun q24 h24 =>
 have G24 : q24.1.1 = true /\ Fct 1 2 (chT (dgS a0b).dig (dgS a1q).dig) (akB (dgS a0b).dig) q24.2 := by rw [<- h24]; have := c0v G22.2 hf (c := x8) (by decide) (by decide); exact ⟨this.1.trans (g7x _ _), this.2⟩
 have O24 := G24.2.okK hf (by decide) f0o
 bq (q24.1.1) (fun _ =>
 pQ (okK q24.2) O24 (
 nM (((bhC q24.2 2 (z8 q24.2) : Nat) : Int), ()) (fun q26 h26 =>
 have G26 : q26.1 = 2 := by rw [<- h26]; show ((bhC q24.2 2 (z8 q24.2) : Nat) : Int) = 2; rw [G24.2.bh 2, aw7]; rfl
 bq (q26.1 == 2) (fun _ =>
 pQ (okK q24.2) O24 (
 nM (((bhC q24.2 3 (z8 q24.2) : Nat) : Int), ()) (fun q28 h28 =>
 have G28 : q28.1 = 0 := by rw [<- h28]; show ((bhC q24.2 3 (z8 q24.2) : Nat) : Int) = 0; rw [G24.2.bh 3, aw8]; rfl
 (by rw [G28]; rfl : some (q28.1 == 0, ()) = some (true, ()))))) (fun h => (by rw [G26] at h; exact absurd h (by decide) : some (false, ()) = some (true, ())))))) (fun h => (by rw [G24.1] at h; exact absurd h (by decide) : some (false, ()) = some (true, ())))))) (fun h => (by rw [G22.1] at h; exact absurd h (by decide) : some (false, ()) = some (true, ()))))))) (fun h => (by rw [G20.1] at h; exact absurd h (by decide) : some (false, ()) = some (true, ())))))) (fun h => (by rw [G18.1] at h; exact absurd h (by decide) : some (false, ()) = some (true, ()))))))) (fun h => (by rw [G12, G13.1, G14, G15, G16.1] at h; exact absurd h (by decide) : some (false, ()) = some (true, ()))))))))))))))))))))))))))))))))
section
variable (f : Int) (w : a7b)
end
section
variable {f : Int} (hf : f = 1 ∨ f = 2) {w : a7b}
include hf
end
section
variable {f : Int} {i : Nat} {k : KD}
end
section
variable {f : Int} (hf : f = 1 ∨ f = 2) {w : a7b} {q : Int × Unit}
end
section
variable {B V : Int} {F : UInt8} {k : KD}
variable {b : UInt8}
end
end
end Go.Proofs.YtpbcabanpppfoaaGreat
namespace Go.Vz
open Go Go.Gx
noncomputable section
def slL {E : DE} (t : Ty) (s : St E) (k : Nat) : List (t.den E) := match gSl t (slV s k) with | some l => l | none => []
end
end Go.Vz
namespace Go.Proofs.YtpbcabanpppfoaaGreat
open Go Go.Gx Go.Vz
open Go.IntKind (wrap)
open List (flatMap getD length take replicate)
set_option maxRecDepth 100000
noncomputable section
end
end Go.Proofs.YtpbcabanpppfoaaGreat
namespace Go.Proofs.YtpbcabanpppfoaaGreat
open Go Go.Gx Go.Vz
open Go.IntKind (wrap)
open List (flatMap getD length take replicate)
set_option maxRecDepth 100000
noncomputable section
section
variable {f v : Int} {i j : Nat} {k k2 : KD} {r : List b8} {n : Nat} {z : b8}
end
end
end Go.Proofs.YtpbcabanpppfoaaGreat
namespace Go.Vz
open Go Go.Gx
noncomputable section
def owL {E : DE} (t : Ty) (s : St E) (k : Nat) : List (t.den E) := match owH s k with
 | .arr u _ xs => (match Ty.to (fun t => List (t.den E)) u t xs with | some ys => ys | none => [])
 | _ => []
end
end Go.Vz
namespace Go.Proofs.YtpbcabanpppfoaaGreat
open Go Go.Gx Go.Vz
open Go.IntKind (wrap)
open List (flatMap getD length take replicate)
set_option maxRecDepth 100000
noncomputable section
end
end Go.Proofs.YtpbcabanpppfoaaGreat
namespace Go.Proofs.YtpbcabanpppfoaaGreat
open Go Go.Gx Go.Vz
open Go.IntKind (wrap)
open List (flatMap getD length take replicate)
set_option maxRecDepth 100000
noncomputable section
def a6a : List UInt8 -> List UInt8 -> Bool
 | x :: a, y :: b => if x = y then a6a a b else decide (x.toNat < y.toNat)
 | _, _ => false
def d0f : ∀ {a b : List UInt8} {i : Nat} {x y : UInt8}, a.take i = b.take i -> a[i]? = some x -> b[i]? = some y -> x ≠ y -> a6a a b = decide (x.toNat < y.toNat)
 | [], _, i, x, y, _, h, _, _ => by simp at h
 | _ :: _, [], i, x, y, _, _, h, _ => by simp at h
 | p :: a, q :: b, 0, x, y, _, h1, h2, hn => by
  simp at h1 h2; subst h1 h2; unfold a6a; rw [F7 hn]
 | p :: a, q :: b, i + 1, x, y, ht, h1, h2, hn => by
  simp only [List.take_succ_cons, K7] at ht; unfold a6a; rw [F8 ht.1]; exact d0f ht.2 (by simpa using h1) (by simpa using h2) hn
def c0x : ∀ (a : List UInt8), a6a a a = false
 | [] => rfl
 | x :: a => by unfold a6a; rw [F8 rfl]; exact c0x a
def f8e (d e : Dig) : LH D := ⟨Nat, [5], fun i => [iv (i : Int)], fun i => i <= 32 /\ d.l.take i = e.l.take i, fun i => 32 - i, [], fun _ => [], [], fun _ => []⟩
def d0g : Con D := { ts := [.dig, .dig], rt := [.bool], ret := fun a => (a6a a.1.l a.2.1.l, ()) }
def lsH (a : HL D d0g.ts) : Nat -> Nat -> Option (Hint D) := fun f r => match f, r with | 176, 2 => some (.inv (f8e a.1 a.2.1)) | _, _ => none
def u8F {x y : UInt8} (h : (((x.toNat : Nat) : Int) != ((y.toNat : Nat) : Int)) = false) : x = y := by
 have : ((x.toNat : Nat) : Int) = ((y.toNat : Nat) : Int) := by simpa using h
 exact W8.1 (by omega)
def f0p {d : Dig} {i : Nat} (h : i < 32) : d.l[i]? = some (d.l.getD (i : Int).toNat 0) := by
 rw [G6, B3, B2 (by rw [d.h]; exact h)]; rfl
def f0q {d e : Dig} {i : Nat} (h : i < 32) (ht : d.l.take i = e.l.take i) (hx : d.l.getD (i : Int).toNat 0 = e.l.getD (i : Int).toNat 0) : d.l.take (i + 1) = e.l.take (i + 1) := by
 rw [S8, S8, ht, f0p h, f0p h, hx]
def g4y : d0g.ok Tp 176 := Con.proveH (c := d0g) EF ZL (H := lsH) (call := fun a => a3q EF ZL (fun _ => none) noC noO (lsH a) 2) (fun a => a0q a0r.nil K0 2) fun (a : HL D d0g.ts) (_ : d0g.holds a) =>
 And.intro (⟨(0 : Nat), rfl, rfl, rfl, ⟨C0 _, rfl⟩⟩ : Ent (f8e a.1 a.2.1) [SV.i .i64 0] [] []) (
 fun (i : Nat) (hI : i <= 32 /\ a.1.l.take i = a.2.1.l.take i) =>
 bq (decide ((i : Int) < 32)) (fun h2 =>
 have hi : i < 32 := by have := A6 h2; omega
 bN (iX (i : Int) ((32 : Nat) : Int)) (by simp; omega) (
 bN (iX (i : Int) ((32 : Nat) : Int)) (by simp; omega) (
 bq ((((a.1.l.getD (i : Int).toNat (0 : UInt8)).toNat : Nat) : Int) != (((a.2.1.l.getD (i : Int).toNat (0 : UInt8)).toNat : Nat) : Int)) (fun h3 =>
 bN (iX (i : Int) ((32 : Nat) : Int)) (by simp; omega) (
 bN (iX (i : Int) ((32 : Nat) : Int)) (by simp; omega) (
 (by
  have hne : (a.1.l.getD (i : Int).toNat (0 : UInt8)) ≠ (a.2.1.l.getD (i : Int).toNat (0 : UInt8)) := fun e => by rw [e] at h3; simp at h3
  have := d0f hI.2 (f0p hi) (f0p hi) hne; show some (decide ((((a.1.l.getD (i : Int).toNat (0 : UInt8)).toNat : Nat) : Int) < (((a.2.1.l.getD (i : Int).toNat (0 : UInt8)).toNat : Nat) : Int)), ()) = some (a6a a.1.l a.2.1.l, ()); rw [this]
  congr 2
  exact V4.2 (by omega) : some (decide ((((a.1.l.getD (i : Int).toNat (0 : UInt8)).toNat : Nat) : Int) < (((a.2.1.l.getD (i : Int).toNat (0 : UInt8)).toNat : Nat) : Int)), ()) = some (d0g.ret a))))) (fun h3 =>
 have he := u8F h3
 (⟨i + 1, by
   show [SV.i .i64 (wrap .i64 ((i : Int) + 1))] = [iv ((i + 1 : Nat) : Int)]; rw [wr1 (by omega)], rfl, rfl, ⟨hi, f0q hi hI.2 he⟩, by show 32 - (i + 1) < 32 - i; omega⟩ : Rnd (f8e a.1 a.2.1) i [SV.i .i64 (wrap .i64 ((i : Int) + 1))] [] []))))) (fun h2 =>
 (by
  have hi : i = 32 := by have := A9 h2; omega
  have : a.1.l = a.2.1.l := by
   have h := hI.2; rw [hi] at h
   rwa [F9 (by rw [a.1.h]; omega), F9 (by rw [a.2.1.h]; omega)] at h
  show some (false, ()) = some (a6a a.1.l a.2.1.l, ()); rw [this, c0x] : some (false, ()) = some (d0g.ret a))))
def sLt (y x : i6) : Bool := bif decide (y.seq < x.seq) then true else (bif y.seq == x.seq then (bif decide (y.view < x.view) then true else (bif y.view == x.view then a6a y.dig.l x.dig.l else false)) else false)
abbrev stD : i6 := Ty.dflt D (.st 2)
abbrev stA (l : List i6) (i : Nat) : i6 := l.getD i stD
def a4g (l : List i6) : Nat -> Nat
 | 0 => 1
 | i + 1 => bif decide ((stA l i).seq < (stA l (i + 1)).seq) then 1 else a4g l i + 1
structure okR (l : List i6) (low view : Int) (many : Int) (i : Nat) : Prop where
  a : low < (stA l i).seq
  b : (stA l i).seq <= low + 8
  c : 0 <= (stA l i).view
  d : (stA l i).view < view
  e : 0 < i -> sLt (stA l (i - 1)) (stA l i) = true
  f : (a4g l i : Int) <= many
  g : ∀ k, i + 1 - a4g l i <= k -> k < i -> (stA l k).dig ≠ (stA l i).dig
open Classical in
def a1n (l : List i6) (low view many : Int) : Bool := decide ((l.length : Int) <= 8 * many /\ ∀ i, i < l.length -> okR l low view many i)
def b8h (l : List i6) : ∀ i, 1 <= a4g l i /\ a4g l i <= i + 1
 | 0 => ⟨B9 _, B9 _⟩
 | i + 1 => by
  have := b8h l i; unfold a4g; cases decide ((stA l i).seq < (stA l (i + 1)).seq) with
  | true => simp only [B5]; omega
  | false => simp only [B8]; omega
def b2u : Con D := { ts := [.sl (.st 2), .st 3, .int], rt := [.bool], pre := some (fun a => 0 <= a.2.1.low /\ a.2.1.low <= 9007199254740983 /\ 1 <= a.2.2.1 /\ a.2.2.1 <= 100), ret := fun a => (a1n a.1 a.2.1.low a.2.1.view a.2.2.1, ()) }
def f0r (l : List i6) (low view many : Int) : LH D := ⟨Nat × Nat, [7, 8], fun i => [iv (i.1 : Int), iv (i.2 : Int)], fun i => i.2 <= l.length /\ (0 < i.2 -> i.1 = a4g l (i.2 - 1)) /\ i.1 <= i.2 /\ ∀ k, k < i.2 -> okR l low view many k, fun i => l.length - i.2, [], fun _ => [], [], fun _ => []⟩
def e5n (l : List i6) (i : Nat) : LH D := ⟨Nat, [7], fun n => [iv (n : Int)], fun n => n + 1 = a4g l i /\ (0 < i -> sLt (stA l (i - 1)) (stA l i) = true), fun _ => 0, [], fun _ => [], [], fun _ => []⟩
def e5o (l : List i6) (i n : Nat) : LH D := ⟨Nat, [11], fun k => [iv (k : Int)], fun k => i + 1 - n <= k /\ k <= i /\ ∀ j, i + 1 - n <= j -> j < k -> (stA l j).dig ≠ (stA l i).dig, fun k => i - k, [], fun _ => [], [], fun _ => []⟩
def srH (a : HL D b2u.ts) : Nat -> Nat -> Option (Hint D) := fun f r => match f, r with
 | 134, 5 => some (.inv (f0r a.1 a.2.1.low a.2.1.view a.2.2.1))
 | 134, 11 => some (.dep fun s => .joi (e5n a.1 (slI s 8).toNat))
 | 134, 19 => some (.dep fun s => .inv (e5o a.1 (slI s 8).toNat (slI s 7).toNat))
 | _, _ => none
abbrev Γls : Nat -> Option (Con D) := i5 noC 176 d0g
def Kls : n3 EF Tp Γls noO := K0.c g4y
section
variable {l : List i6} {low view many : Int} {i : Nat}
open Classical in
def c0y (hi : i < l.length) (h : ¬ okR l low view many i) : a1n l low view many = false := by
 unfold a1n; exact E5 fun hh => h (hh.2 i hi)
open Classical in
def f0s (h : 8 * many < (l.length : Int)) : a1n l low view many = false := by
 unfold a1n; exact E5 fun hh => by have := hh.1; omega
open Classical in
def f8f (h1 : (l.length : Int) <= 8 * many) (h : ∀ i, i < l.length -> okR l low view many i) : a1n l low view many = true := by
 unfold a1n; exact F6 ⟨h1, h⟩
def c6l (hi : 0 < i) (h : (stA l (i - 1)).seq < (stA l i).seq) : a4g l i = 1 := by
 obtain ⟨j, rfl⟩ : ∃ j, i = j + 1 := ⟨i - 1, by omega⟩
 unfold a4g
 rw [show decide ((stA l j).seq < (stA l (j + 1)).seq) = true from F6 h]; rfl
def d2z (hi : 0 < i) (h : ¬ (stA l (i - 1)).seq < (stA l i).seq) : a4g l i = a4g l (i - 1) + 1 := by
 obtain ⟨j, rfl⟩ : ∃ j, i = j + 1 := ⟨i - 1, by omega⟩
 show a4g l (j + 1) = a4g l j + 1
 conv => lhs; unfold a4g
 rw [show decide ((stA l j).seq < (stA l (j + 1)).seq) = false from E5 h]; rfl
def g7y {x : i6} (h : (bif bif bif decide (x.seq <= low) then true else decide (low + 8 < x.seq) then true else decide (x.view < 0) then true else decide (view <= x.view)) = true) : ¬ (low < x.seq /\ x.seq <= low + 8 /\ 0 <= x.view /\ x.view < view) := by simp at h; omega
def in4 {x : i6} (h : (bif bif bif decide (x.seq <= low) then true else decide (low + 8 < x.seq) then true else decide (x.view < 0) then true else decide (view <= x.view)) = false) : low < x.seq /\ x.seq <= low + 8 /\ 0 <= x.view /\ x.view < view := by simp at h; omega
def g7z {x y : i6} (h : (bif decide (x.seq < y.seq) then true else decide (x.view < y.view)) = true) : x.seq < y.seq ∨ x.view < y.view := by simp at h; omega
def in2 {x y : i6} (h : (bif decide (x.seq < y.seq) then true else decide (x.view < y.view)) = false) : y.seq <= x.seq /\ y.view <= x.view := by simp at h; omega
def f0t {y x : i6} (h : y.seq < x.seq) : sLt y x = true := by unfold sLt; rw [show decide (y.seq < x.seq) = true from F6 h]; rfl
def a6t {y x : i6} : sLt y x = true ↔ y.seq < x.seq ∨ y.seq = x.seq /\ (y.view < x.view ∨ y.view = x.view /\ a6a y.dig.l x.dig.l = true) := by
 unfold sLt
 by_cases h1 : y.seq < x.seq
 ·simp [h1]
 ·by_cases h2 : y.seq = x.seq
  ·by_cases h3 : y.view < x.view
   ·simp [h1, h2, h3]
   ·by_cases h4 : y.view = x.view
    ·simp [h2, h4]
    ·simp [h2, h3, h4]
  ·simp [h1, h2]
end
def g4z : b2u.ok Tp 134 := Con.proveH (c := b2u) EF ZL (H := srH) (call := fun a => a3q EF ZL (fun _ => none) Γls noO (srH a) 2) (fun a => a0q a0r.nil Kls 2) fun (a : HL D b2u.ts) (hp : b2u.holds a) =>
 have hp : 0 <= a.2.1.low /\ a.2.1.low <= 9007199254740983 /\ @LE.le Int _ 1 a.2.2.1 /\ @LE.le Int _ a.2.2.1 100 := hp
 brL fun hl : a.1.length <= d4 =>
 bq (decide (wrap .i64 ((8 : Int) * a.2.2.1) < ((a.1.length : Nat) : Int))) (fun h2 => (by
  have h := A6 h2; rw [IntWalk.i64_in _ (by omega)] at h; exact congrArg (fun q : Bool => some (q, ())) (f0s h).symm : some (false, ()) = some (b2u.ret a))) (fun h2 =>
 And.intro (⟨((0 : Nat), (0 : Nat)), rfl, rfl, rfl, ⟨C0 _, fun h => absurd h (Nat.lt_irrefl 0), B9 _, fun k hk => absurd hk (Q7 _)⟩⟩ : Ent (f0r a.1 a.2.1.low a.2.1.view a.2.2.1) [SV.i .i64 0, SV.i .i64 0] [] []) (
 fun (i : Nat × Nat) (hI : i.2 <= a.1.length /\ (0 < i.2 -> i.1 = a4g a.1 (i.2 - 1)) /\ i.1 <= i.2 /\ ∀ k, k < i.2 -> okR a.1 a.2.1.low a.2.1.view a.2.2.1 k) =>
 brL fun _ : a.1.length <= d4 =>
 bq (decide ((i.2 : Int) < (a.1.length : Nat))) (fun h5 =>
 have hi : i.2 < a.1.length := by have := A6 h5; omega
 have eL : wrap .i64 (a.2.1.low + 8) = a.2.1.low + 8 := by rw [IntWalk.i64_in _ (by omega)]
 bN (iX (i.2 : Int) ((a.1.length : Nat) : Int)) (by simp; omega) (
 bq (bif bif bif decide ((stA a.1 i.2).seq <= a.2.1.low) then true else decide (wrap .i64 (a.2.1.low + 8) < (stA a.1 i.2).seq) then true else decide ((stA a.1 i.2).view < 0) then true else decide (a.2.1.view <= (stA a.1 i.2).view)) (fun h6 => (congrArg (fun q : Bool => some (q, ())) (c0y hi fun r => g7y (by rw [eL] at h6; exact h6) ⟨r.a, r.b, r.c, r.d⟩).symm : some (false, ()) = some (b2u.ret a))) (fun h6 =>
 have R : a.2.1.low < (stA a.1 i.2).seq /\ (stA a.1 i.2).seq <= a.2.1.low + 8 /\ 0 <= (stA a.1 i.2).view /\ (stA a.1 i.2).view < a.2.1.view := in4 (by rw [eL] at h6; exact h6)
 bq ((i.2 : Int) == 0) (fun h7 =>
 have h0 : i.2 = 0 := by have : (i.2 : Int) = 0 := (by simpa using h7); omega
 And.intro (⟨(0 : Nat), rfl, rfl, rfl, ⟨by show 0 + 1 = a4g a.1 i.2; rw [h0]; rfl, fun h => by omega⟩⟩ : Ent (e5n a.1 i.2) [SV.i .i64 0] [] []) (
 fun (n : Nat) (hn : n + 1 = a4g a.1 i.2 /\ (0 < i.2 -> sLt (stA a.1 (i.2 - 1)) (stA a.1 i.2) = true)) =>
 have hr := b8h a.1 i.2
 have eN : (wrap .i64 ((n : Int) + 1)) = ((n + 1 : Nat) : Int) := by unfold d4 at hl; rw [IntWalk.i64_in _ (by omega)]; omega
 have eT : (wrap .i64 ((n : Int) + 1)).toNat = n + 1 := by rw [eN]; omega
 bq (decide (@LT.lt Int _ a.2.2.1 (wrap .i64 ((n : Int) + 1)))) (fun h9 => (congrArg (fun q : Bool => some (q, ())) (c0y hi fun r => by have := r.f; have := A6 h9; rw [eN] at this; omega).symm : some (false, ()) = some (b2u.ret a))) (fun h9 =>
 And.intro (⟨i.2 - n, by
   show [SV.i .i64 (wrap .i64 (wrap .i64 ((i.2 : Int) - (wrap .i64 ((n : Int) + 1))) + 1))] = [iv ((i.2 - n : Nat) : Int)]; unfold d4 at hl; rw [eN, IntWalk.i64_in ((i.2 : Int) - _) (by omega), IntWalk.i64_in _ (by omega)]; show [SV.i .i64 _] = [SV.i .i64 _]
   congr 2; omega, rfl, rfl, ⟨by rw [eT]; omega, by omega, fun j h1 h2 => by rw [eT] at h1; omega⟩⟩ : Ent (e5o a.1 i.2 (wrap .i64 ((n : Int) + 1)).toNat) [SV.i .i64 (wrap .i64 (wrap .i64 ((i.2 : Int) - (wrap .i64 ((n : Int) + 1))) + 1))] [] []) (
 fun (k : Nat) (hk : i.2 + 1 - (wrap .i64 ((n : Int) + 1)).toNat <= k /\ k <= i.2 /\ ∀ j, i.2 + 1 - (wrap .i64 ((n : Int) + 1)).toNat <= j -> j < k -> (stA a.1 j).dig ≠ (stA a.1 i.2).dig) =>
 bq (decide ((k : Int) < (i.2 : Int))) (fun h11 =>
 have hki : k < i.2 := by have := A6 h11; omega
 bN (iX (k : Int) ((a.1.length : Nat) : Int)) (by simp; omega) (
 bq (decide ((stA a.1 k).dig = (stA a.1 i.2).dig)) (fun h12 => (congrArg (fun q : Bool => some (q, ())) (c0y hi fun r => r.g k (by have := hk.1; rw [eT] at this; omega) hki (A6 h12)).symm : some (false, ()) = some (b2u.ret a))) (fun h12 =>
 (⟨k + 1, by
   show [SV.i .i64 (wrap .i64 ((k : Int) + 1))] = [iv ((k + 1 : Nat) : Int)]; rw [n4 (by omega : k < a.1.length) hl], rfl, rfl, ⟨P4 hk.1, hki, fun j h1 h2 => by
    rcases F1.1 h2 with h2 | rfl
    ·exact hk.2.2 j h1 h2
    ·exact A9 h12⟩, by show i.2 - (k + 1) < i.2 - k; omega⟩ : Rnd (e5o a.1 i.2 (wrap .i64 ((n : Int) + 1)).toNat) k [SV.i .i64 (wrap .i64 ((k : Int) + 1))] [] [])))) (fun h11 =>
 have hki : k = i.2 := by have := A9 h11; omega
 (⟨(n + 1, i.2 + 1), by
   show [SV.i .i64 (wrap .i64 ((n : Int) + 1)), SV.i .i64 (wrap .i64 ((i.2 : Int) + 1))] = [iv ((n + 1 : Nat) : Int), iv ((i.2 + 1 : Nat) : Int)]; rw [eN, n4 hi hl], rfl, rfl, ⟨hi, fun _ => hn.1, by show n + 1 <= i.2 + 1; omega, fun j hj => by
    rcases F1.1 hj with hj | rfl
    ·exact hI.2.2.2 j hj
    ·exact ⟨R.1, R.2.1, R.2.2.1, R.2.2.2, hn.2, by have := A9 h9; rw [eN] at this; omega, fun j h1 h2 => hk.2.2 j (by rw [eT]; omega) (by omega)⟩⟩, by show a.1.length - (i.2 + 1) < a.1.length - i.2; omega⟩ : Rnd (f0r a.1 a.2.1.low a.2.1.view a.2.2.1) i [SV.i .i64 (wrap .i64 ((n : Int) + 1)), SV.i .i64 (wrap .i64 ((i.2 : Int) + 1))] [] [])))))) (fun h7 =>
 have h0 : 0 < i.2 := by have : ¬ (i.2 : Int) = 0 := (by simpa using h7); omega
 have eP : (wrap .i64 ((i.2 : Int) - 1)) = ((i.2 - 1 : Nat) : Int) := by unfold d4 at hl; rw [IntWalk.i64_in _ (by omega)]; omega
 have eY : (stA a.1 (wrap .i64 ((i.2 : Int) - 1)).toNat) = stA a.1 (i.2 - 1) := by rw [eP, G6]
 bN (iX (wrap .i64 ((i.2 : Int) - 1)) ((a.1.length : Nat) : Int)) (by rw [eP]; simp; omega) (
 And.intro (bq (decide ((stA a.1 (wrap .i64 ((i.2 : Int) - 1)).toNat).seq < (stA a.1 i.2).seq)) (fun h8 =>
  have h8 : (stA a.1 (i.2 - 1)).seq < (stA a.1 i.2).seq := by rw [<- eY]; exact A6 h8
  (⟨(0 : Nat), rfl, rfl, rfl, ⟨by show 0 + 1 = a4g a.1 i.2; rw [c6l h0 h8], fun _ => f0t h8⟩⟩ : Ent (e5n a.1 i.2) [SV.i .i64 0] [] [])) (fun h8 =>
  have h8 : ¬ (stA a.1 (i.2 - 1)).seq < (stA a.1 i.2).seq := by rw [<- eY]; exact A9 h8
  have hr : i.1 + 1 = a4g a.1 i.2 := by rw [d2z h0 h8, hI.2.1 h0]
  bN (iX (wrap .i64 ((i.2 : Int) - 1)) ((a.1.length : Nat) : Int)) (by rw [eP]; simp; omega) (
  bq (bif decide ((stA a.1 i.2).seq < (stA a.1 (wrap .i64 ((i.2 : Int) - 1)).toNat).seq) then true else decide ((stA a.1 i.2).view < (stA a.1 (wrap .i64 ((i.2 : Int) - 1)).toNat).view)) (fun h9 => (congrArg (fun q : Bool => some (q, ())) (c0y hi fun r => by rw [eY] at h9; have h1 := a6t.1 (r.e h0); have h2 := g7z h9; omega).symm : some (false, ()) = some (b2u.ret a))) (fun h9 =>
  have h9 : (stA a.1 (i.2 - 1)).seq = (stA a.1 i.2).seq /\ (stA a.1 (i.2 - 1)).view <= (stA a.1 i.2).view := by rw [eY] at h9; have h1 := in2 h9; omega
  bq ((stA a.1 i.2).view == (stA a.1 (wrap .i64 ((i.2 : Int) - 1)).toNat).view) (fun h10 =>
  have h10 : (stA a.1 i.2).view = (stA a.1 (i.2 - 1)).view := by rw [<- eY]; simpa using h10
  bq (!a6a (stA a.1 (wrap .i64 ((i.2 : Int) - 1)).toNat).dig.l (stA a.1 i.2).dig.l) (fun h11 => (congrArg (fun q : Bool => some (q, ())) (c0y hi fun r => by rw [eY] at h11; have := a6t.1 (r.e h0); have h12 : a6a (stA a.1 (i.2 - 1)).dig.l (stA a.1 i.2).dig.l = false := (by simpa using h11); rcases this with h | ⟨_, h | ⟨_, h⟩⟩ <;> first | omega | (rw [h12] at h; cases h)).symm : some (false, ()) = some (b2u.ret a))) (fun h11 =>
  (⟨i.1, rfl, rfl, rfl, ⟨hr, fun _ => a6t.2 (.inr ⟨h9.1, .inr ⟨h10.symm, by rw [<- eY]; simpa using h11⟩⟩)⟩⟩ : Ent (e5n a.1 i.2) [SV.i .i64 (i.1 : Int)] [] []))) (fun h10 =>
  have h10 : ¬ (stA a.1 i.2).view = (stA a.1 (i.2 - 1)).view := by rw [<- eY]; simpa using h10
  (⟨i.1, rfl, rfl, rfl, ⟨hr, fun _ => a6t.2 (.inr ⟨h9.1, .inl (by omega)⟩)⟩⟩ : Ent (e5n a.1 i.2) [SV.i .i64 (i.1 : Int)] [] [])))))) (
 fun (n : Nat) (hn : n + 1 = a4g a.1 i.2 /\ (0 < i.2 -> sLt (stA a.1 (i.2 - 1)) (stA a.1 i.2) = true)) =>
 have hr := b8h a.1 i.2
 have eN : (wrap .i64 ((n : Int) + 1)) = ((n + 1 : Nat) : Int) := by unfold d4 at hl; rw [IntWalk.i64_in _ (by omega)]; omega
 have eT : (wrap .i64 ((n : Int) + 1)).toNat = n + 1 := by rw [eN]; omega
 bq (decide (@LT.lt Int _ a.2.2.1 (wrap .i64 ((n : Int) + 1)))) (fun h9 => (congrArg (fun q : Bool => some (q, ())) (c0y hi fun r => by have := r.f; have := A6 h9; rw [eN] at this; omega).symm : some (false, ()) = some (b2u.ret a))) (fun h9 =>
 And.intro (⟨i.2 - n, by
   show [SV.i .i64 (wrap .i64 (wrap .i64 ((i.2 : Int) - (wrap .i64 ((n : Int) + 1))) + 1))] = [iv ((i.2 - n : Nat) : Int)]; unfold d4 at hl; rw [eN, IntWalk.i64_in ((i.2 : Int) - _) (by omega), IntWalk.i64_in _ (by omega)]; show [SV.i .i64 _] = [SV.i .i64 _]
   congr 2; omega, rfl, rfl, ⟨by rw [eT]; omega, by omega, fun j h1 h2 => by rw [eT] at h1; omega⟩⟩ : Ent (e5o a.1 i.2 (wrap .i64 ((n : Int) + 1)).toNat) [SV.i .i64 (wrap .i64 (wrap .i64 ((i.2 : Int) - (wrap .i64 ((n : Int) + 1))) + 1))] [] []) (
 fun (k : Nat) (hk : i.2 + 1 - (wrap .i64 ((n : Int) + 1)).toNat <= k /\ k <= i.2 /\ ∀ j, i.2 + 1 - (wrap .i64 ((n : Int) + 1)).toNat <= j -> j < k -> (stA a.1 j).dig ≠ (stA a.1 i.2).dig) =>
 bq (decide ((k : Int) < (i.2 : Int))) (fun h11 =>
 have hki : k < i.2 := by have := A6 h11; omega
 bN (iX (k : Int) ((a.1.length : Nat) : Int)) (by simp; omega) (
 bq (decide ((stA a.1 k).dig = (stA a.1 i.2).dig)) (fun h12 => (congrArg (fun q : Bool => some (q, ())) (c0y hi fun r => r.g k (by have := hk.1; rw [eT] at this; omega) hki (A6 h12)).symm : some (false, ()) = some (b2u.ret a))) (fun h12 =>
 (⟨k + 1, by
   show [SV.i .i64 (wrap .i64 ((k : Int) + 1))] = [iv ((k + 1 : Nat) : Int)]; rw [n4 (by omega : k < a.1.length) hl], rfl, rfl, ⟨P4 hk.1, hki, fun j h1 h2 => by
    rcases F1.1 h2 with h2 | rfl
    ·exact hk.2.2 j h1 h2
    ·exact A9 h12⟩, by show i.2 - (k + 1) < i.2 - k; omega⟩ : Rnd (e5o a.1 i.2 (wrap .i64 ((n : Int) + 1)).toNat) k [SV.i .i64 (wrap .i64 ((k : Int) + 1))] [] [])))) (fun h11 =>
 have hki : k = i.2 := by have := A9 h11; omega
 (⟨(n + 1, i.2 + 1), by
   show [SV.i .i64 (wrap .i64 ((n : Int) + 1)), SV.i .i64 (wrap .i64 ((i.2 : Int) + 1))] = [iv ((n + 1 : Nat) : Int), iv ((i.2 + 1 : Nat) : Int)]; rw [eN, n4 hi hl], rfl, rfl, ⟨hi, fun _ => hn.1, by show n + 1 <= i.2 + 1; omega, fun j hj => by
    rcases F1.1 hj with hj | rfl
    ·exact hI.2.2.2 j hj
    ·exact ⟨R.1, R.2.1, R.2.2.1, R.2.2.2, hn.2, by have := A9 h9; rw [eN] at this; omega, fun j h1 h2 => hk.2.2 j (by rw [eT]; omega) (by omega)⟩⟩, by show a.1.length - (i.2 + 1) < a.1.length - i.2; omega⟩ : Rnd (f0r a.1 a.2.1.low a.2.1.view a.2.2.1) i [SV.i .i64 (wrap .i64 ((n : Int) + 1)), SV.i .i64 (wrap .i64 ((i.2 : Int) + 1))] [] [])))))))))) (fun h5 =>
 (by
  have hi : i.2 = a.1.length := by have := A9 h5; omega
  have h := A9 h2; rw [IntWalk.i64_in _ (by omega)] at h; exact congrArg (fun q : Bool => some (q, ())) (f8f (by omega) fun k hk => hI.2.2.2 k (by omega)).symm : some (true, ()) = some (b2u.ret a)))))
abbrev mkA (l : List Mark) (i : Nat) : Mark := l.getD i (Ty.dflt D (.st 1))
abbrev okM (l : List Mark) (i : Nat) : Prop := 0 < i -> (mkA l (i - 1)).seq < (mkA l i).seq /\ (mkA l i).seq <= 9007199254740991
structure hdM (c : b8) : Prop where
  n : 1 <= c.node /\ c.node <= 28
  v : 1 <= c.view /\ c.view <= 1048576
  w : 0 <= c.low /\ c.low <= 9007199254740983
  l : 1 <= c.mz.length /\ c.mz.length <= 5
  m : (mkA c.mz 0).seq = c.low
open Classical in
def j8 (c : b8) : Bool := decide (hdM c /\ ∀ i, i < c.mz.length -> okM c.mz i) && (a1n c.p c.low c.view 1 && a1n c.q c.low c.view 4)
def a6e : Con D := { ts := [.st 3], rt := [.bool], ret := fun a => (j8 a.1, ()) }
def f8g (l : List Mark) : LH D := ⟨Nat, [3], fun i => [iv (i : Int)], fun i => i <= l.length /\ 1 <= i /\ ∀ k, k < i -> okM l k, fun i => l.length - i, [], fun _ => [], [], fun _ => []⟩
def rmH (a : HL D a6e.ts) : Nat -> Nat -> Option (Hint D) := fun f r => match f, r with
 | 88, 4 => some (.inv (f8g a.1.mz))
 | _, _ => none
abbrev Γrm : Nat -> Option (Con D) := i5 noC 134 b2u
def Krm : n3 EF Tp Γrm noO := K0.c g4z
section
variable {c : b8}
open Classical in
def a6u (h : ¬ (hdM c /\ ∀ i, i < c.mz.length -> okM c.mz i)) : j8 c = false := by
 unfold j8; rw [E5 h]; rfl
open Classical in
def d6d (h : hdM c /\ ∀ i, i < c.mz.length -> okM c.mz i) : j8 c = (a1n c.p c.low c.view 1 && a1n c.q c.low c.view 4) := by
 unfold j8; rw [F6 h]; rfl
def ltC {i n : Nat} (h : i < n) : (decide (0 <= (i : Int)) && decide ((i : Int) < (n : Nat))) = true := by simp; omega
def rgT {lo x hi : Int} (h : (!bif decide (lo <= x) then decide (x <= hi) else false) = true) : ¬ (lo <= x /\ x <= hi) := by simp at h; omega
def rgF {lo x hi : Int} (h : (!bif decide (lo <= x) then decide (x <= hi) else false) = false) : lo <= x /\ x <= hi := by simp at h; omega
end
def d6e : a6e.ok Tp 88 := Con.proveH (c := a6e) EF ZL (H := rmH) (call := fun a => a3q EF ZL (fun _ => none) Γrm noO (rmH a) 2) (fun a => a0q a0r.nil Krm 2) fun (a : HL D a6e.ts) (_ : a6e.holds a) =>
 bq (!bif decide (1 <= a.1.node) then decide (a.1.node <= 28) else false) (fun h1 => (congrArg (fun q : Bool => some (q, ())) (a6u fun r => rgT h1 r.1.n).symm : some (false, ()) = some (a6e.ret a))) (fun h1 =>
 have H1 := rgF h1
 bq (!bif decide (1 <= a.1.view) then decide (a.1.view <= 1048576) else false) (fun h2 => (congrArg (fun q : Bool => some (q, ())) (a6u fun r => rgT h2 r.1.v).symm : some (false, ()) = some (a6e.ret a))) (fun h2 =>
 have H2 := rgF h2
 bq (!bif decide (0 <= a.1.low) then decide (a.1.low <= 9007199254740983) else false) (fun h3 => (congrArg (fun q : Bool => some (q, ())) (a6u fun r => rgT h3 r.1.w).symm : some (false, ()) = some (a6e.ret a))) (fun h3 =>
 have H3 := rgF h3
 brL fun hl : a.1.mz.length <= d4 =>
 bq (!bif decide (1 <= ((a.1.mz.length : Nat) : Int)) then decide (((a.1.mz.length : Nat) : Int) <= 5) else false) (fun h5 => (congrArg (fun q : Bool => some (q, ())) (a6u fun r => rgT h5 (by have := r.1.l; omega)).symm : some (false, ()) = some (a6e.ret a))) (fun h5 =>
 have H5 := rgF h5
 bN (iX (0 : Int) ((a.1.mz.length : Nat) : Int)) (by simp; omega) (
 bq ((mkA a.1.mz 0).seq != a.1.low) (fun h6 => (congrArg (fun q : Bool => some (q, ())) (a6u fun r => by rw [r.1.m] at h6; simp at h6).symm : some (false, ()) = some (a6e.ret a))) (fun h6 =>
 have HD : hdM a.1 := ⟨H1, H2, H3, by omega, Q3.1 h6⟩
 And.intro (⟨(1 : Nat), rfl, rfl, rfl, ⟨by omega, B9 _, fun k hk h => by omega⟩⟩ : Ent (f8g a.1.mz) [SV.i .i64 1] [] []) (
 fun (i : Nat) (hI : i <= a.1.mz.length /\ 1 <= i /\ ∀ k, k < i -> okM a.1.mz k) =>
 brL fun _ : a.1.mz.length <= d4 =>
 bq (decide ((i : Int) < (a.1.mz.length : Nat))) (fun h9 =>
 have hi : i < a.1.mz.length := by have := A6 h9; omega
 have eP : (wrap .i64 ((i : Int) - 1)) = ((i - 1 : Nat) : Int) := by rw [IntWalk.i64_in _ (by omega)]; omega
 have eY : (mkA a.1.mz (wrap .i64 ((i : Int) - 1)).toNat) = mkA a.1.mz (i - 1) := by rw [eP, G6]
 bN (iX (i : Int) ((a.1.mz.length : Nat) : Int)) (ltC hi) (
 bN (iX (wrap .i64 ((i : Int) - 1)) ((a.1.mz.length : Nat) : Int)) (by rw [eP]; exact ltC (by omega)) (
 bq (decide ((mkA a.1.mz i).seq <= (mkA a.1.mz (wrap .i64 ((i : Int) - 1)).toNat).seq)) (fun h10 => (congrArg (fun q : Bool => some (q, ())) (a6u fun r => by have h := A6 h10; rw [eY] at h; have := (r.2 i hi (by omega)).1; omega).symm : some (false, ()) = some (a6e.ret a))) (fun h10 =>
 have h10 : (mkA a.1.mz (i - 1)).seq < (mkA a.1.mz i).seq := by have h := A9 h10; rw [eY] at h; omega
 bN (iX (i : Int) ((a.1.mz.length : Nat) : Int)) (ltC hi) (
 bq (decide (9007199254740991 < (mkA a.1.mz i).seq)) (fun h11 => (congrArg (fun q : Bool => some (q, ())) (a6u fun r => by have h := A6 h11; have := (r.2 i hi (by omega)).2; omega).symm : some (false, ()) = some (a6e.ret a))) (fun h11 =>
 (⟨i + 1, by
   show [SV.i .i64 (wrap .i64 ((i : Int) + 1))] = [iv ((i + 1 : Nat) : Int)]; rw [wr1 (by omega)], rfl, rfl, ⟨hi, by omega, fun k hk => by
    rcases F1.1 hk with hk | rfl
    ·exact hI.2.2 k hk
    ·exact fun _ => ⟨h10, by have := A9 h11; omega⟩⟩, by show a.1.mz.length - (i + 1) < a.1.mz.length - i; omega⟩ : Rnd (f8g a.1.mz) i [SV.i .i64 (wrap .i64 ((i : Int) + 1))] [] []))))))) (fun h9 =>
 have hA : hdM a.1 /\ ∀ k, k < a.1.mz.length -> okM a.1.mz k := ⟨HD, fun k hk => hI.2.2 k (by have := A9 h9; omega)⟩
 pQ ((0 : Int) <= a.1.low /\ a.1.low <= 9007199254740983 /\ (1 : Int) <= 1 /\ (1 : Int) <= 100) ⟨H3.1, H3.2, by decide, by decide⟩ (
 bq (a1n a.1.p a.1.low a.1.view 1) (fun h10 =>
 pQ ((0 : Int) <= a.1.low /\ a.1.low <= 9007199254740983 /\ (1 : Int) <= 4 /\ (4 : Int) <= 100) ⟨H3.1, H3.2, by decide, by decide⟩ (
 (by
  show some (a1n a.1.q a.1.low a.1.view 4, ()) = some (j8 a.1, ()); rw [d6d hA, h10]; rfl : some (a1n a.1.q a.1.low a.1.view 4, ()) = some (a6e.ret a)))) (fun h10 =>
 (by
  show some (false, ()) = some (j8 a.1, ()); rw [d6d hA, h10]; rfl : some (false, ()) = some (a6e.ret a))))))))))))
def d6f (l : List UInt8) : ByteArray.size ⟨l.toArray⟩ = l.length := rfl
def d6g (x : UInt8) (l : List UInt8) : (ByteArray.mk (x :: l).toArray)[0]! = x := rfl
def d6h (x : UInt8) (l : List UInt8) (i : Nat) : (ByteArray.mk (x :: l).toArray)[i + 1]! = (ByteArray.mk l.toArray)[i]! := by
 simp only [getElem!_def, getElem?_def, d6f]
 by_cases h : i < l.length
 ·simp [h]; rfl
 ·simp [h]
def e5p : b1l [] [] = 0 := rfl
def d9b (x y : UInt8) (a b : List UInt8) : b1l (x :: a) (y :: b) = if x != y then (if x < y then -1 else 1) else b1l a b := by
 unfold b1l Extern.BytealgCompare.cmp
 simp only [d6f, I3, Nat.succ_min_succ, List.range_succ_eq_map, X1, d6g, List.find?_map, Z3, d6h]
 by_cases h : x = y
 ·subst h; simp only [bne_self_eq_false]; cases List.find? (fun i => (ByteArray.mk a.toArray)[i]! != (ByteArray.mk b.toArray)[i]!) (List.range (min a.length b.length)) with
  | none => simp
  | some i => simp [d6h]
 ·have : (x != y) = true := by simpa using h
  simp [this, d6g]; rfl
def d0h : ∀ (a b : List UInt8), a.length = b.length -> (b1l a b < 0 ↔ a6a a b = true)
 | [], [], _ => by rw [e5p]; unfold a6a; simp
 | [], _ :: _, h => by simp at h
 | _ :: _, [], h => by simp at h
 | x :: a, y :: b, h => by
  rw [d9b]; unfold a6a; by_cases e : x = y
  ·subst e; simp only [bne_self_eq_false, Bool.false_eq_true, Aq, X7]; exact d0h a b (by simpa using h)
  ·have hb : (x != y) = true := by simpa using e
   rw [F8 hb, F7 e]; by_cases l : x < y
   ·rw [F8 l]; have : x.toNat < y.toNat := UInt8.lt_iff_toNat_lt.1 l; simp [this]
   ·rw [F7 l]; have : ¬ x.toNat < y.toNat := fun h => l (UInt8.lt_iff_toNat_lt.2 h)
    simp [this]
def a3s (a b : Int) : Int := bif decide (a < b) then -1 else bif decide (b < a) then 1 else 0
def b5y (y x : i6) : Int := bif a3s y.seq x.seq != 0 then a3s y.seq x.seq else bif a3s y.view x.view != 0 then a3s y.view x.view else b1l y.dig.l x.dig.l
def d6i {a b : Int} : a3s a b < 0 ↔ a < b := by
 unfold a3s
 by_cases h : a < b
 ·simp [h]
 ·by_cases h2 : b < a <;> simp [h, h2]
def b8i {a b : Int} : a3s a b = 0 ↔ a = b := by
 unfold a3s
 by_cases h : a < b
 ·simp [h]; omega
 ·by_cases h2 : b < a
  ·simp [h, h2]; omega
  ·simp [h, h2]; omega
def b8j {y x : i6} : b5y y x < 0 ↔ sLt y x = true := by
 rw [a6t]
 unfold b5y
 by_cases h1 : a3s y.seq x.seq = 0
 ·have e1 := b8i.1 h1; rw [show (a3s y.seq x.seq != 0) = false by simpa using h1, B8]; by_cases h2 : a3s y.view x.view = 0
  ·have e2 := b8i.1 h2; rw [show (a3s y.view x.view != 0) = false by simpa using h2, B8, d0h _ _ (by rw [y.dig.h, x.dig.h])]; constructor
   ·intro h; exact .inr ⟨e1, .inr ⟨e2, h⟩⟩
   ·rintro (h | ⟨_, h | ⟨_, h⟩⟩)
    ·omega
    ·omega
    ·exact h
  ·rw [show (a3s y.view x.view != 0) = true by simpa using h2, B5, d6i]; have e2 : y.view ≠ x.view := fun e => h2 (b8i.2 e)
   constructor
   ·intro h; exact .inr ⟨e1, .inl h⟩
   ·rintro (h | ⟨_, h | ⟨h, _⟩⟩)
    ·omega
    ·exact h
    ·exact absurd h e2
 ·rw [show (a3s y.seq x.seq != 0) = true by simpa using h1, B5, d6i]; have e1 : y.seq ≠ x.seq := fun e => h1 (b8i.2 e)
  constructor
  ·intro h; exact .inl h
  ·rintro (h | ⟨h, _⟩)
   ·exact h
   ·exact absurd h e1
def b0h : Con D := { ts := [.int, .int], rt := [.int], ret := fun a => (a3s a.1 a.2.1, ()) }
def b4k : Con D := { ts := [.st 2, .st 2], rt := [.int], ret := fun a => (b5y a.1 a.2.1, ()) }
def c6m {x : Int} (h : (x != x) = true) : False := by simp at h
def f8h : b0h.ok Tp 221 := Con.proveH (c := b0h) EF ZL (H := fun _ _ _ => none) (call := fun _ => a3q EF ZL (fun _ => none) noC noO (fun _ _ => none) 4) (fun _ => a0q a0r.nil K0 4) fun (a : HL D b0h.ts) (_ : b0h.holds a) =>
 bq (@bne Int _ a.1 a.1) (fun h1 =>
 bq (@bne Int _ a.2.1 a.2.1) (fun h2 => ((c6m h1).elim : some ((0 : Int), ()) = some (b0h.ret a))) (fun h2 =>
 ((c6m h1).elim : some ((-1 : Int), ()) = some (b0h.ret a)))) (fun h1 =>
 bq (@bne Int _ a.2.1 a.2.1) (fun h2 => ((c6m h2).elim : some ((1 : Int), ()) = some (b0h.ret a))) (fun h2 =>
 bq (decide (@LT.lt Int _ a.1 a.2.1)) (fun h3 => (by
  show some ((-1 : Int), ()) = some (a3s a.1 a.2.1, ()); unfold a3s; rw [h3]; rfl : some ((-1 : Int), ()) = some (b0h.ret a))) (fun h3 =>
 bq (decide (@LT.lt Int _ a.2.1 a.1)) (fun h4 => (by
  show some ((1 : Int), ()) = some (a3s a.1 a.2.1, ()); unfold a3s; rw [h3, h4]; rfl : some ((1 : Int), ()) = some (b0h.ret a))) (fun h4 => (by
  show some ((0 : Int), ()) = some (a3s a.1 a.2.1, ()); unfold a3s; rw [h3, h4]; rfl : some ((0 : Int), ()) = some (b0h.ret a))))))
abbrev Γcm : Nat -> Option (Con D) := i5 noC 221 b0h
def Kcm : n3 EF Tp Γcm noO := K0.c f8h
def f8i : b4k.ok Tp 205 := Con.proveH (c := b4k) EF ZL (H := fun _ _ _ => some (.unr 4)) (call := fun _ => a3q EF ZL (fun _ => none) Γcm noO (fun _ _ => some (.unr 4)) 4) (fun _ => a0q a0r.nil Kcm 4) fun (a : HL D b4k.ts) (_ : b4k.holds a) =>
 bq (a3s a.1.seq a.2.1.seq != 0) (fun h1 => (by
  show some (a3s a.1.seq a.2.1.seq, ()) = some (b5y a.1 a.2.1, ()); unfold b5y; rw [h1]; rfl : some (a3s a.1.seq a.2.1.seq, ()) = some (b4k.ret a))) (fun h1 =>
 bq (a3s a.1.view a.2.1.view != 0) (fun h2 => (by
  show some (a3s a.1.view a.2.1.view, ()) = some (b5y a.1 a.2.1, ()); unfold b5y; rw [h1, h2]; rfl : some (a3s a.1.view a.2.1.view, ()) = some (b4k.ret a))) (fun h2 =>
 bq (b1l a.1.dig.l a.2.1.dig.l != 0) (fun h3 => (by
  show some (b1l a.1.dig.l a.2.1.dig.l, ()) = some (b5y a.1 a.2.1, ()); unfold b5y; rw [h1, h2]; rfl : some (b1l a.1.dig.l a.2.1.dig.l, ()) = some (b4k.ret a))) (fun h3 => (by
  have e : b1l a.1.dig.l a.2.1.dig.l = 0 := Q3.1 h3; show some ((0 : Int), ()) = some (b5y a.1 a.2.1, ()); unfold b5y; rw [h1, h2, B8, B8, e] : some ((0 : Int), ()) = some (b4k.ret a)))))
abbrev inA (l : List Int) (i : Nat) : Int := l.getD i (Ty.dflt D .int)
open Classical in
def rsB (l : List Int) : Bool := decide (∀ i, i < l.length -> 0 < i -> inA l (i - 1) < inA l i)
def b6w : Con D := { ts := [.sl .int], rt := [.bool], ret := fun a => (rsB a.1, ()) }
def f8j (l : List Int) : LH D := ⟨Nat, [3], fun i => [iv (i : Int)], fun i => (i <= l.length ∨ i = 1) /\ 1 <= i /\ ∀ k, k < i -> k < l.length -> 0 < k -> inA l (k - 1) < inA l k, fun i => l.length - i, [], fun _ => [], [], fun _ => []⟩
def g5a (a : HL D b6w.ts) : Nat -> Nat -> Option (Hint D) := fun f r => match f, r with
 | 165, 2 => some (.inv (f8j a.1))
 | _, _ => none
abbrev mkS (s : i6) : Mark := ⟨s.seq, s.dig⟩
abbrev cnt (c : List (Int × Int)) (x : Int) : Int := (a0f (E := D) .int .int c x).getD 0
abbrev sen (c : List (Mark × Int)) (x : Mark) : Int := (a0f (E := D) (.st 1) .int c x).getD 0
structure okP (l : List i6) (low view : Int) (many : Int) (i : Nat) : Prop where
  a : low < (stA l i).seq
  b : (stA l i).seq <= low + 8
  c : 0 <= (stA l i).view
  d : (stA l i).view < view
  e : 0 < i -> sLt (stA l (i - 1)) (stA l i) = true
  f : (((l.take (i + 1)).countP fun s => decide (s.seq = (stA l i).seq) : Nat) : Int) <= many
  g : (((l.take (i + 1)).countP fun s => decide (mkS s = mkS (stA l i)) : Nat) : Int) <= 1
open Classical in
def b2c (l : List i6) (low view many : Int) : Bool := decide (∀ i, i < l.length -> okP l low view many i)
def a7d : Con D := { ts := [.sl (.st 2), .st 3, .int], rt := [.bool], pre := some (fun a => 0 <= a.2.1.low /\ a.2.1.low <= 9007199254740983 /\ 1 <= a.2.1.view /\ a.2.1.view <= 1048576), ret := fun a => (b2c a.1 a.2.1.low a.2.1.view a.2.2.1, ()) }
def d9c (l : List i6) (low view many : Int) : LH D := ⟨Nat × List (Int × Int) × List (Mark × Int), [16], fun i => [iv (i.1 : Int)], fun i => i.1 <= l.length /\ (∀ x, cnt i.2.1 x = (((l.take i.1).countP fun s => decide (s.seq = x) : Nat) : Int)) /\ (∀ x, sen i.2.2 x = (((l.take i.1).countP fun s => decide (mkS s = x) : Nat) : Int)) /\ ∀ k, k < i.1 -> okP l low view many k, fun i => l.length - i.1, [], fun _ => [], [1, 2], fun i => [.map .int .int i.2.1, .map (.st 1) .int i.2.2]⟩
def spH (a : HL D a7d.ts) : Nat -> Nat -> Option (Hint D) := fun f r => match f, r with
 | 166, 3 => some (.inv (d9c a.1 a.2.1.low a.2.1.view a.2.2.1))
 | _, _ => none
abbrev Γor : Nat -> Option (Con D) := i5 noC 205 b4k
def Kor : n3 EF Tp Γor noO := K0.c f8i
end
end Go.Proofs.YtpbcabanpppfoaaGreat
namespace Go.Proofs.YtpbcabanpppfoaaGreat
open Go Go.Gx Go.Vz
open Go.IntKind (wrap)
open List (flatMap getD length take replicate)
set_option maxRecDepth 100000
noncomputable section
open Classical in
def g5b {l : List Int} {i : Nat} (hi : i < l.length) (h0 : 0 < i) (h : ¬ inA l (i - 1) < inA l i) : rsB l = false := by
 unfold rsB; exact E5 fun hh => h (hh i hi h0)
open Classical in
def f8k {l : List Int} (h : ∀ i, i < l.length -> 0 < i -> inA l (i - 1) < inA l i) : rsB l = true := by
 unfold rsB; exact F6 h
def f8l : b6w.ok Tp 165 := Con.proveH (c := b6w) EF ZL (H := g5a) (call := fun a => a3q EF ZL (fun _ => none) noC noO (g5a a) 2) (fun a => a0q a0r.nil K0 2) fun (a : HL D b6w.ts) (_ : b6w.holds a) =>
 And.intro (⟨(1 : Nat), rfl, rfl, rfl, ⟨.inr rfl, B9 _, fun k hk _ h => by omega⟩⟩ : Ent (f8j a.1) [SV.i .i64 1] [] []) (
 fun (i : Nat) (hI : (i <= a.1.length ∨ i = 1) /\ 1 <= i /\ ∀ k, k < i -> k < a.1.length -> 0 < k -> inA a.1 (k - 1) < inA a.1 k) =>
 brL fun hl : a.1.length <= d4 =>
 bq (decide ((i : Int) < (a.1.length : Nat))) (fun h3 =>
 have hi : i < a.1.length := by have := A6 h3; omega
 have eP : wrap .i64 ((i : Int) - 1) = ((i - 1 : Nat) : Int) := by unfold d4 at hl; rw [IntWalk.i64_in _ (by omega)]; omega
 have eY : inA a.1 (wrap .i64 ((i : Int) - 1)).toNat = inA a.1 (i - 1) := by rw [eP, G6]
 bN (iX (i : Int) ((a.1.length : Nat) : Int)) (ltC hi) (
 bN (iX (wrap .i64 ((i : Int) - 1)) ((a.1.length : Nat) : Int)) (by rw [eP]; exact ltC (by omega)) (
 bq (decide (@LE.le Int _ (inA a.1 i) (inA a.1 (wrap .i64 ((i : Int) - 1)).toNat))) (fun h4 =>
 (congrArg (fun q : Bool => some (q, ())) (g5b hi hI.2.1 fun h => by
  have h5 := A6 h4; rw [eY] at h5; exact absurd h (U2.2 h5)).symm : some (false, ()) = some (b6w.ret a))) (fun h4 =>
 (⟨i + 1, by
   show [SV.i .i64 (wrap .i64 ((i : Int) + 1))] = [iv ((i + 1 : Nat) : Int)]; rw [n4 hi hl], rfl, rfl, ⟨.inl hi, by omega, fun k hk h1 h2 => by
    rcases F1.1 hk with hk | rfl
    ·exact hI.2.2 k hk h1 h2
    ·have h5 := A9 h4; rw [eY] at h5; exact Int.not_le.1 h5⟩, by show a.1.length - (i + 1) < a.1.length - i; omega⟩ : Rnd (f8j a.1) i [SV.i .i64 (wrap .i64 ((i : Int) + 1))] [] []))))) (fun h3 =>
 (congrArg (fun q : Bool => some (q, ())) (f8k fun k hk h0 => hI.2.2 k (by have := A9 h3; omega) hk h0).symm : some (true, ()) = some (b6w.ret a))))
end
end Go.Proofs.YtpbcabanpppfoaaGreat
