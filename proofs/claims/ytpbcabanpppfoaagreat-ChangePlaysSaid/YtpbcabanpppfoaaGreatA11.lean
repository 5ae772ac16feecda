/- A part of the proof. No condition. -/
import Derived.Test.YtpbcabanpppfoaaGreatA10
set_option linter.all false
namespace Go.Proofs.YtpbcabanpppfoaaGreat
open Go Go.Gx Go.Vz
open Go.IntKind (wrap)
open List (flatMap getD length take replicate)
set_option maxRecDepth 100000
noncomputable section
def zP (b : List UInt8) : Nat := 63 - (b.length + 8) % 64
def lbU (all : Int) (i : Nat) : UInt8 := UInt8.ofNat (Int.toNat (wrap .u8 (a7b .u64 (wrap .u64 (8 * wrap .u64 all)) (wrap .i64 (8 * ((i : Nat) : Int))))))
def a6w (b : List UInt8) (k : Nat) : List UInt8 := (b ++ [128]) ++ replicate k 0
def b3s (b : List UInt8) (p : List UInt8) : Nat -> List UInt8
 | 0 => p
 | i + 1 => b3s b p i ++ [lbU (b.length : Nat) (7 - i)]
def a4e (b : List UInt8) : List UInt8 := b3s b (a6w b (zP b)) 8
def c1y (b p : List UInt8) : ∀ i, (b3s b p i).length = p.length + i
 | 0 => rfl
 | i + 1 => by unfold b3s; rw [B7, c1y b p i]; simp; omega
def f9z (b : List UInt8) : LH D := ⟨Nat, [3], fun _ => [.own 0], fun k => k <= zP b, fun k => zP b - k, [(.sl 3, .u8, 5)], fun k => [.arr .u8 5 (a6w b k)], [], fun _ => []⟩
def c5k : Con D := { ts := [.sl .u8], rt := [.sl .u8], pre := some (fun a => a.1.length <= 1000000), ret := fun a => (a4e a.1, ()) }
def b5h (b : List UInt8) (k : Nat) : (a6w b k).length = b.length + 1 + k := by unfold a6w; simp; omega
def mx5 {n : Nat} (h : n <= 2000000) : Nat.ble (n * m6 Tp 5) i5 = true := by rw [mb5]; exact D3 (by unfold i5; omega)
def d1a {b : List UInt8} {k : Nat} (hk : k <= zP b) : (Int.tmod ((a6w b k).length : Int) 64 != 56) = decide (k < zP b) := by
 rw [b5h, Ax (by omega)]
 unfold zP at *
 by_cases h : k < 63 - (b.length + 8) % 64
 ·simp only [h, O2, Y3, ne_eq]; omega
 ·simp only [h, P3]; have : ((b.length + 1 + k : Nat) : Int) % 64 = 56 := by omega
  rw [this]; rfl
def b1f {b : List UInt8} {i : Nat} (h : b.length <= 1000000) (hi : i <= zP b) (j : Nat) (hj : j <= 8) : Nat.ble (((b3s b (a6w b i) j).length + 1) * m6 Tp 5) i5 = true := mx5 (by rw [c1y, b5h]; unfold zP at hi; omega)
def g0a : c5k.ok Tp 111 := Con.prove (c := c5k) EF Z0 K0 (H := fun a f r => match f, r with | 111, 2 => some (.inv (f9z a.1)) | _, _ => some (.unr 9)) (n := 2) fun (a : HL D c5k.ts) (hp : c5k.holds a) =>
 have hp : a.1.length <= 1000000 := hp
 bN (Nat.ble ((0 + a.1.length) * m6 Tp 5) i5) (mx5 (by omega)) (
 bN (Nat.ble ((a.1.length + 1) * m6 Tp 5) i5) (mx5 (by omega)) (
 And.intro (⟨(0 : Nat), rfl, by show _ = [HB.arr .u8 5 (a6w a.1 0)]; unfold a6w; simp, rfl, C0 _⟩ : Ent (f9z a.1) [.own 0] [.arr .u8 5 (a.1 ++ [128])] [])
 fun (k : Nat) (hk : k <= zP a.1) =>
 bq (Int.tmod ((a6w a.1 k).length : Int) 64 != 56) (fun h2 => have h2' : k < zP a.1 := by rw [d1a hk] at h2; exact A6 h2
  bN (Nat.ble (((a6w a.1 k).length + 1) * m6 Tp 5) i5) (mx5 (by rw [b5h]; unfold zP at hk; omega)) (
  (⟨(k + 1 : Nat), rfl, by show _ = [HB.arr .u8 5 (a6w a.1 (k + 1))]; unfold a6w; rw [List.replicate_succ', <- B6], rfl, h2', by show zP a.1 - (k + 1) < zP a.1 - k; omega⟩ : Rnd (f9z a.1) k [.own 0] [.arr .u8 5 (a6w a.1 k ++ [0])] [])))
 (fun h2 => have h2' : k = zP a.1 := by rw [d1a hk] at h2; have := A9 h2; omega
  brL fun _ : a.1.length <= i5 =>
  bN (Nat.ble (((b3s a.1 (a6w a.1 k) 0).length + 1) * m6 Tp 5) i5) (b1f hp hk 0 (by omega)) (
  bN (Nat.ble (((b3s a.1 (a6w a.1 k) 1).length + 1) * m6 Tp 5) i5) (b1f hp hk 1 (by omega)) (
  bN (Nat.ble (((b3s a.1 (a6w a.1 k) 2).length + 1) * m6 Tp 5) i5) (b1f hp hk 2 (by omega)) (
  bN (Nat.ble (((b3s a.1 (a6w a.1 k) 3).length + 1) * m6 Tp 5) i5) (b1f hp hk 3 (by omega)) (
  bN (Nat.ble (((b3s a.1 (a6w a.1 k) 4).length + 1) * m6 Tp 5) i5) (b1f hp hk 4 (by omega)) (
  bN (Nat.ble (((b3s a.1 (a6w a.1 k) 5).length + 1) * m6 Tp 5) i5) (b1f hp hk 5 (by omega)) (
  bN (Nat.ble (((b3s a.1 (a6w a.1 k) 6).length + 1) * m6 Tp 5) i5) (b1f hp hk 6 (by omega)) (
  bN (Nat.ble (((b3s a.1 (a6w a.1 k) 7).length + 1) * m6 Tp 5) i5) (b1f hp hk 7 (by omega)) (
  (by rw [h2']; rfl : some (b3s a.1 (a6w a.1 k) 8, ()) = some (c5k.ret a)))))))))))))
def b2d : Con D := { ts := [], rt := [.st 14], ret := fun _ => (⟨SL⟩, ()) }
def e6n : b2d.ok Tp 112 := Con.prove (c := b2d) EF Z0 K0 (H := H0) (n := 0) fun (a : HL D b2d.ts) (_ : b2d.holds a) => (rfl : some ((⟨SL⟩ : AV .u32 8), ()) = some (b2d.ret a))
def a8p : Con D := { ts := [], rt := [.st 16], ret := fun _ => (⟨KL⟩, ()) }
def e0c : a8p.ok Tp 149 := Con.prove (c := a8p) EF Z0 K0 (H := H0) (n := 0) fun (a : HL D a8p.ts) (_ : a8p.holds a) => (rfl : some ((⟨KL⟩ : AV .u32 64), ()) = some (a8p.ret a))
def d1b (x : Int) (n : Nat) : Int := a4a .or .u32 (a7b .u32 x (n : Int)) (b4h .u32 x ((32 - n : Nat) : Int))
def ml (x c : Int) : Int := wrap .u32 (wrap .u32 x * c)
def wq (b : List Int) (i j k l : Nat) : Int := ad (ad (ad (ml (gi b i) 16777216) (ml (gi b j) 65536)) (ml (gi b k) 256)) (wrap .u32 (gi b l))
def a0r (b : List Int) : Nat -> List Int
 | 0 => replicate 64 0
 | t + 1 => bif Nat.blt t 16 then (a0r b t).set t (wq b (4 * t) (4 * t + 1) (4 * t + 2) (4 * t + 3)) else (a0r b t).set t (w16 d1b (a0r b t) (t - 16) (t - 15) (t - 7) (t - 2))
def f1v (b : List Int) : LH D := ⟨Nat, [4], fun t => [.i .i64 (t : Nat)], fun t => t <= 16, fun t => 16 - t, [], fun _ => [], [2], fun t => [.box 217 [.vec .u32 64 (a0r b t)]]⟩
def f1w (b : List Int) : LH D := ⟨Nat, [5], fun t => [.i .i64 (t : Nat)], fun t => 16 <= t /\ t <= 64, fun t => 64 - t, [], fun _ => [], [2], fun t => [.box 217 [.vec .u32 64 (a0r b t)]]⟩
def b2e : Con D := { ts := [.st 15], rt := [.st 16], ret := fun a => (⟨a0r a.1.l 64⟩, ()) }
def e4j {t : Nat} (j : Nat) (h : t < 64) (hj : j < 4) : wrap .i64 (wrap .i64 ((4 : Int) * (t : Int)) + (j : Int)) = ((4 * t + j : Nat) : Int) := by rw [e4 h, IntWalk.i64_in _ (by omega)]; omega
def at4 {t : Nat} (j : Nat) (h : t < 16) (hj : j < 4) : (decide (0 <= wrap .i64 (wrap .i64 ((4 : Int) * (t : Int)) + (j : Int))) && decide (wrap .i64 (wrap .i64 ((4 : Int) * (t : Int)) + (j : Int)) < ((64 : Nat) : Int))) = true := by rw [e4j j (by omega) hj]; simp; omega
abbrev B4 (t : Nat) (j : Int) : Int := wrap .i64 (wrap .i64 ((4 : Int) * (t : Int)) + j)
def s1R (b : List Int) {t : Nat} (h : t < 16) : Rnd (f1v b) t [iv (wrap .i64 ((t : Int) + 1))] [] [.box 217 [.vec .u32 64 ((a0r b t).set t (wq b (Int.toNat (A4 t)) (Int.toNat (B4 t 1)) (Int.toNat (B4 t 2)) (Int.toNat (B4 t 3))))]] :=
 ⟨(t + 1 : Nat), by rw [o7 h (by decide)]; rfl, rfl, by
  have : Nat.blt t 16 = true := D3 h; have q1 := e4j 1 (t := t) (by omega) (by omega); have q2 := e4j 2 (t := t) (by omega) (by omega); have q3 := e4j 3 (t := t) (by omega) (by omega); simp only [Y7] at q1 q2 q3; unfold A4 B4; rw [e4 (by omega), <- e4 (t := t) (by omega)] at *; rw [q1, q2, q3, e4 (by omega)]; simp only [f1v, a0r, this, B5, G6], by show t + 1 <= 16; omega, by show 16 - (t + 1) < 16 - t; omega⟩
def s2R (b : List Int) {t : Nat} (ht : t < 64) (h16 : 16 <= t) : Rnd (f1w b) t [iv (wrap .i64 ((t : Int) + 1))] [] [.box 217 [.vec .u32 64 ((a0r b t).set t (w16 d1b (a0r b t) (Int.toNat (wrap .i64 ((t : Int) - 16))) (Int.toNat (wrap .i64 ((t : Int) - 15))) (Int.toNat (wrap .i64 ((t : Int) - 7))) (Int.toNat (wrap .i64 ((t : Int) - 2)))))]] :=
 ⟨(t + 1 : Nat), by rw [o7 ht (by decide)]; rfl, rfl, by
  have : Nat.blt t 16 = false := by
   cases h : Nat.blt t 16 with
   | false => rfl
   | true => have : t < 16 := C2 h; omega
  have e1 := eM 16 ht (by omega); have e2 := eM 15 ht (by omega); have e3 := eM 7 ht (by omega); have e4 := eM 2 ht (by omega); simp only [Y7] at e1 e2 e3 e4; rw [e1, e2, e3, e4]; simp only [f1w, a0r, this, B8, G6], by show 16 <= t + 1 /\ t + 1 <= 64; omega, by show 64 - (t + 1) < 64 - t; omega⟩
def e6o : b2e.ok Tp 150 := Con.prove (c := b2e) EF Z0 K0 (H := fun a f r => match f, r with | 150, 3 => some (.inv (f1v a.1.l)) | 150, 7 => some (.inv (f1w a.1.l)) | _, _ => none) (n := 2) fun (a : HL D b2e.ts) (_ : b2e.holds a) =>
 And.intro (⟨(0 : Nat), rfl, rfl, rfl, C0 _⟩ : Ent (f1v a.1.l) [iv 0] [] [.box 217 [.vec .u32 64 (replicate 64 0)]])
 fun (t : Nat) (h1 : t <= 16) =>
 bq (decide ((t : Int) < 16)) (fun h2 => have ht : t < 16 := by have := A6 h2; omega
  bN (iX (A4 t) ((64 : Nat) : Int)) (by unfold A4; rw [e4 (by omega)]; simp; omega) (
  bN (iX (B4 t 1) ((64 : Nat) : Int)) (at4 1 ht (by omega)) (
  bN (iX (B4 t 2) ((64 : Nat) : Int)) (at4 2 ht (by omega)) (
  bN (iX (B4 t 3) ((64 : Nat) : Int)) (at4 3 ht (by omega)) (
  bN (iX (t : Int) ((64 : Nat) : Int)) (b3m (by omega)) (
  s1R a.1.l ht))))))
 (fun h2 => have ht : t = 16 := by have := A9 h2; omega
  And.intro (⟨(16 : Nat), rfl, rfl, by rw [ht]; rfl, ⟨B9 _, by omega⟩⟩ : Ent (f1w a.1.l) [iv 16] [] [.box 217 [.vec .u32 64 (a0r a.1.l t)]])
  fun (i : Nat) (h3 : 16 <= i /\ i <= 64) =>
  bq (decide ((i : Int) < 64)) (fun h4 => have hi : i < 64 := by have := A6 h4; omega
   bN (iX (wrap .i64 ((i : Int) - 15)) ((64 : Nat) : Int)) (atM 15 hi (by omega)) (
   bN (iX (wrap .i64 ((i : Int) - 2)) ((64 : Nat) : Int)) (atM 2 hi (by omega)) (
   bN (iX (wrap .i64 ((i : Int) - 16)) ((64 : Nat) : Int)) (atM 16 hi (by omega)) (
   bN (iX (wrap .i64 ((i : Int) - 7)) ((64 : Nat) : Int)) (atM 7 hi (by omega)) (
   bN (iX (i : Int) ((64 : Nat) : Int)) (b3m hi) (
   s2R a.1.l hi h3.1))))))
  (fun h4 => have hi : i = 64 := by have := A9 h4; omega
   (by rw [hi]; rfl : some ((⟨a0r a.1.l i⟩ : AV .u32 64), ()) = some (b2e.ret a))))
def stR (s k w : List Int) : Nat -> List Int
 | 0 => s
 | t + 1 => let x := stR s k w t
  [ad (c3m d1b x k w t) (c1i d1b x), gi x 0, gi x 1, gi x 2, ad (gi x 3) (c3m d1b x k w t), gi x 4, gi x 5, gi x 6]
def a9u (s b : List Int) : List Int := c1j (stR s KL (a0r b 64) 64) s 8
def g0b (s w : List Int) : LH D := ⟨Nat, [8], fun t => [.i .i64 (t : Nat)], fun t => t <= 64, fun t => 64 - t, [], fun _ => [], [7], fun t => [.box 173 [.vec .u32 8 (stR s KL w t)]]⟩
def b2f : Con D := { ts := [.st 14, .st 15], rt := [.st 14], ret := fun a => (⟨a9u a.1.l a.2.1.l⟩, ()) }
abbrev Γq : Nat -> Option (Con D) := j6 (j6 noC 149 a8p) 150 b2e
def Kq : o8 EF Tp Γq noO := (K0.c e0c).c e6o
def e6p : b2f.ok Tp 113 := Con.prove (c := b2f) EF Z0 Kq (H := fun a f r => match f, r with | 113, 4 => some (.inv (g0b a.1.l (a0r a.2.1.l 64))) | 113, _ => some (.unr 9) | _, _ => none) (n := 2) fun (a : HL D b2f.ts) (_ : b2f.holds a) =>
 have tl := And.intro (⟨(0 : Nat), rfl, rfl, rfl, C0 _⟩ : Ent (g0b a.1.l (a0r a.2.1.l 64)) [iv 0] [] [.box 173 [.vec .u32 8 a.1.l]])
  fun (t : Nat) (h1 : t <= 64) =>
  bq (decide ((t : Int) < 64)) (fun h2 => have ht : t < 64 := by have := A6 h2; omega
   bN (iX (t : Int) ((64 : Nat) : Int)) (b3m ht) (
   bN (iX (t : Int) ((64 : Nat) : Int)) (b3m ht) (
   (⟨(t + 1 : Nat), by rw [o7 ht (by decide)]; rfl, rfl, rfl, by show t + 1 <= 64; omega, by show 64 - (t + 1) < 64 - t; omega⟩ : Rnd (g0b a.1.l (a0r a.2.1.l 64)) t [iv (wrap .i64 ((t : Int) + 1))] [] [.box 173 [.vec .u32 8 (stR a.1.l KL (a0r a.2.1.l 64) (t + 1))]]))))
  (fun h2 => have ht : t = 64 := by have := A9 h2; omega
   (by rw [ht]; rfl : some ((⟨c1j (stR a.1.l KL (a0r a.2.1.l 64) t) a.1.l 8⟩ : AV .u32 8), ()) = some (b2f.ret a)))
 And.intro (And.intro (b2n tl) (b2n (b2n tl))) (b2n (And.intro (b2n tl) tl))
def b3a (p : List UInt8) (at_ : Nat) : Nat -> List Int
 | 0 => replicate 64 0
 | i + 1 => (b3a p at_ i).set i ((p.getD (at_ + i) 0).toNat : Nat)
def slP (s : St D) (t : Nat) : Nat := match s.sl.get t with | some (.ptr id _) => id | _ => 0
def e6q (p : List UInt8) : LH D := ⟨Nat, [5], fun k => [.i .i64 ((64 * k : Nat) : Int)], fun k => 64 * k <= p.length, fun k => p.length - 64 * k, [], fun _ => [], [1], fun k => [.box 173 [.vec .u32 8 (a1s a9u k SL (u8s p))]]⟩
def e6r (p : List UInt8) (at_ w : Nat) : LH D := ⟨Nat, [7], fun i => [.i .i64 (i : Nat)], fun i => i <= 64, fun i => 64 - i, [], fun _ => [], [w], fun i => [.box 175 [.vec .u8 64 (b3a p at_ i)]]⟩
def a2p (b : List UInt8) : Dig := dgO (a1s a9u ((a4e b).length / 64) SL (u8s (a4e b))) 32
def b7z : Con D := { ts := [.sl .u8], rt := [.dig], pre := some (fun a => a.1.length <= 1000000), ret := fun a => (a2p a.1, ()) }
abbrev Γof : Nat -> Option (Con D) := j6 (j6 (j6 noC 111 c5k) 112 b2d) 113 b2f
def Kof : o8 EF Tp Γof noO := ((K0.c g0a).c e6n).c e6p
def d1c (b : List UInt8) : (a4e b).length = 64 * ((b.length + 8) / 64 + 1) := by
 unfold a4e; rw [c1y, b5h]; unfold zP; omega
def b6z (p : List UInt8) (a : Nat) : ∀ i, (b3a p a i).length = 64
 | 0 => by simp [b3a]
 | i + 1 => by simp [b3a, b6z p a i]
def c5l (p : List UInt8) (a : Nat) : ∀ (i j : Nat), j < i -> i <= 64 -> (b3a p a i)[j]? = some ((p.getD (a + j) 0).toNat : Int)
 | 0, j, h, _ => by omega
 | i + 1, j, h, hi => by
  unfold b3a; rw [M9]; by_cases e : i = j
  ·subst e; rw [F8 rfl, F8 (by rw [b6z]; omega)]
  ·rw [F7 e]; exact c5l p a i j (by omega) (by omega)
def e6s {p : List UInt8} {a : Nat} (h : a + 64 <= p.length) : b3a p a 64 = ((u8s p).drop a).take 64 := by
 apply J1
 intro j
 by_cases hj : j < 64
 ·rw [c5l p a 64 j hj (by omega), J2, F8 hj, I7, C7, B2 (by omega), B3, B2 (by omega)]
  rfl
 ·rw [I0 (by rw [b6z]; omega), I0 (by simp; omega)]
def d4d (tk : List Int -> List Int -> List Int) (k : Nat) (st xs : List Int) : a1s tk (k + 1) st xs = tk (a1s tk k st xs) ((xs.drop (64 * k)).take 64) := b1y tk k 1 st xs
def e6t {p : List UInt8} {k i : Nat} (hp : p.length <= 2000000) (hk : 64 * k < p.length) (hi : i < 64) : wrap .i64 (((64 * k : Nat) : Int) + (i : Int)) = ((64 * k + i : Nat) : Int) := by
 rw [<- Z7]; exact t6 (by omega)
def d4e : b7z.ok Tp 78 := Con.prove (c := b7z) EF Z0 Kof (H := fun a f r => match f, r with | 78, 4 => some (.inv (e6q (a4e a.1))) | 78, 8 => some (.dep fun st => .inv (e6r (a4e a.1) (slI st 5).toNat (slP st 6))) | _, _ => some (.unr 33)) (n := 2) fun (a : HL D b7z.ts) (hp : b7z.holds a) =>
 have hp : a.1.length <= 1000000 := hp
 pQ (a.1.length <= 1000000) hp (
 And.intro (⟨(0 : Nat), rfl, rfl, rfl, C0 _⟩ : Ent (e6q (a4e a.1)) [iv 0] [] [.box 173 [.vec .u32 8 SL]])
 fun (k : Nat) (h1 : 64 * k <= (a4e a.1).length) =>
 brL fun hl : (a4e a.1).length <= i5 =>
 bq (decide (((64 * k : Nat) : Int) < ((a4e a.1).length : Int))) (fun h2 => have hk : 64 * k < (a4e a.1).length := by have := A6 h2; omega
  have hlen : (a4e a.1).length <= 2000000 := by rw [d1c]; omega
  have h64 : 64 * k + 64 <= (a4e a.1).length := by rw [d1c] at *; omega
  And.intro (⟨(0 : Nat), rfl, rfl, rfl, C0 _⟩ : Ent (e6r (a4e a.1) (64 * k) 4) [iv 0] [] [.box 175 [.vec .u8 64 (replicate 64 0)]])
  fun (i : Nat) (h3 : i <= 64) =>
  bq (decide ((i : Int) < 64)) (fun h4 => have hi : i < 64 := by have := A6 h4; omega
   bN (iX (wrap .i64 (((64 * k : Nat) : Int) + (i : Int))) ((a4e a.1).length : Int)) (by rw [e6t hlen hk hi]; simp; omega) (
   bN (iX (i : Int) ((64 : Nat) : Int)) (b3m hi) (
   (⟨(i + 1 : Nat), by rw [o7 hi (by decide)]; rfl, rfl, by rw [e6t hlen hk hi]; rfl, by show i + 1 <= 64; omega, by show 64 - (i + 1) < 64 - i; omega⟩ : Rnd (e6r (a4e a.1) (64 * k) 4) i [iv (wrap .i64 ((i : Int) + 1))] [] [.box 175 [.vec .u8 64 ((b3a (a4e a.1) (64 * k) i).set i (((a4e a.1).getD (Int.toNat (wrap .i64 (((64 * k : Nat) : Int) + (i : Int)))) 0).toNat : Nat))]]))))
  (fun h4 => have hi : i = 64 := by have := A9 h4; omega
   (⟨(k + 1 : Nat), by rw [show wrap .i64 (((64 * k : Nat) : Int) + 64) = ((64 * (k + 1) : Nat) : Int) from (by rw [show (((64 * k : Nat) : Int) + 64) = ((64 * (k + 1) : Nat) : Int) by omega]; exact t6 (by omega))]; rfl, rfl, by rw [hi, e6s h64]; exact congrArg (fun l => [HB.box (E := D) 173 [.vec .u32 8 l]]) (d4d a9u k SL (u8s (a4e a.1))).symm, by show 64 * (k + 1) <= _; omega, by show (a4e a.1).length - 64 * (k + 1) < (a4e a.1).length - 64 * k; omega⟩ :
    Rnd (e6q (a4e a.1)) k [iv (wrap .i64 (((64 * k : Nat) : Int) + 64))] [] [.box 173 [.vec .u32 8 (a9u (a1s a9u k SL (u8s (a4e a.1))) (b3a (a4e a.1) (64 * k) i))]])))
 (fun h2 => have hk : k = (a4e a.1).length / 64 := by have := A9 h2; omega
  (by rw [hk]; rfl : some (dgO (a1s a9u k SL (u8s (a4e a.1))) 32, ()) = some (b7z.ret a))))
def e6u (k : IntKind) (a b : Int) : a4a .or k a b = a4a .or k b a := by
 unfold a4a; simp only [BitVec.or_comm]
def e6v : d1b = a0u := by
 funext x n; unfold d1b a0u; exact e6u _ _ _
def f1x (x : Int) : wrap .u32 x = x % 4294967296 := by
 simp only [wrap, IntKind.bits, IntKind.signed]; simp
abbrev f8 (acc c : Int) : Int := a4a .or .u32 (b4h .u32 acc 8) (wrap .u32 c)
def or8 {x c : Nat} (hx : x < 16777216) (hc : c < 256) : f8 (x : Int) (c : Int) = ((256 * x + c : Nat) : Int) := by
 have e1 : b4h .u32 (x : Int) 8 = ((256 * x : Nat) : Int) := by
  show wrap .u32 ((x : Int) * 2 ^ 8) = _; rw [f1x]; omega
 have e2 : wrap .u32 (c : Int) = (c : Int) := by rw [f1x]; omega
 unfold f8
 rw [e1, e2]
 show wrap .u32 (((BitVec.ofInt 32 ((256 * x : Nat) : Int) ||| BitVec.ofInt 32 (c : Int)).toNat : Nat) : Int) = _
 rw [BitVec.toNat_or, T7, T7, U3, U3, N3 (by omega), N3 (by omega)]
 have : 2 ^ 8 * x + c = 2 ^ 8 * x ||| c := Nat.two_pow_add_eq_or_of_lt (by omega) x
 rw [show 256 * x = 2 ^ 8 * x by omega, <- this, f1x]; omega
def d4f {w : List Int} {t : Nat} {x : Int} (h : t < w.length) : gi (w.set t x) t = x := by
 unfold gi; rw [B3, List.getElem?_set_self h]; rfl
def e0d {w : List Int} {t j : Nat} {x : Int} (h : t ≠ j) : gi (w.set t x) j = gi w j := by
 unfold gi; rw [B3, List.getElem?_set_ne h, B3]
def wj4 (b w : List Int) {t : Nat} (h : t < w.length) : wj b w t 4 = w.set t (f8 (f8 (f8 (f8 (gi w t) (gi b (4 * t + 0))) (gi b (4 * t + 1))) (gi b (4 * t + 2))) (gi b (4 * t + 3))) := by
 simp only [wj, List.set_set]
 rw [d4f h, d4f h, d4f h]
def isB (b : List Int) : Prop := ∀ i, ∃ c : Nat, c < 256 /\ gi b i = (c : Int)
def g7h {b : List Int} (hb : isB b) (i j k l : Nat) : f8 (f8 (f8 (f8 0 (gi b i)) (gi b j)) (gi b k)) (gi b l) = wq b i j k l := by
 obtain ⟨p, hp, e1⟩ := hb i
 obtain ⟨q, hq, e2⟩ := hb j
 obtain ⟨r, hr, e3⟩ := hb k
 obtain ⟨s, hs, e4⟩ := hb l
 unfold wq ml ad
 rw [e1, e2, e3, e4]
 have z : f8 (0 : Int) (p : Int) = ((256 * 0 + p : Nat) : Int) := or8 (x := 0) (by omega) hp
 rw [z, or8 (by omega) hq, or8 (by omega) hr, or8 (by omega) hs]
 simp only [f1x]; omega
def c1z (b : List Int) : ∀ t, (a0r b t).length = 64
 | 0 => by simp [a0r]
 | t + 1 => by
  unfold a0r; cases Nat.blt t 16 <;> simp [c1z b t]
def b8a (b : List Int) : ∀ (t j : Nat), t <= j -> j < 64 -> gi (a0r b t) j = 0
 | 0, j, _, h => by unfold a0r gi; rw [B3, List.getElem?_replicate]; simp [h]
 | t + 1, j, h1, h2 => by
  unfold a0r; cases Nat.blt t 16 <;> simp only [B5, B8] <;> rw [e0d (by omega)] <;> exact b8a b t j (by omega) h2
def d1d {b : List Int} (hb : isB b) : ∀ t, t <= 64 -> t8 b t = a0r b t
 | 0, _ => rfl
 | t + 1, h => by
  unfold t8 a0r; rw [d1d hb t (by omega)]; cases Nat.blt t 16 with
  | true =>
   simp only [B5]; rw [wj4 _ _ (by rw [c1z]; omega), b8a b t t (B9 _) (by omega), g7h hb]; rfl
  | false => simp only [B8]; rw [e6v]
def d7d (s k w : List Int) : ∀ t, stR s k w (t + 1) = stp d1b s k w (t + 1)
 | 0 => rfl
 | t + 1 => by
  unfold stR stp; rw [d7d s k w t]
def f1y (a b : Int) : ad a b = ad b a := by unfold ad; rw [Int.add_comm]
def e0e {s x : List Int} (hs : s.length = 8) (hx : x.length = 8) : c1j x s 8 = c1j s x 8 := by
 match s, hs, x, hx with
 | [a0, a1, a2, a3, a4, a5, a6, a7], _, [b0, b1, b2, b3, b4, b5, b6, b7], _ =>
  show [ad b0 a0, ad b1 a1, ad b2 a2, ad b3 a3, ad b4 a4, ad b5 a5, ad b6 a6, ad b7 a7] = [ad a0 b0, ad a1 b1, ad a2 b2, ad a3 b3, ad a4 b4, ad a5 b5, ad a6 b6, ad a7 b7]; simp only [f1y]
def d1e (s x : List Int) : ∀ i, (c1j s x i).length = s.length
 | 0 => rfl
 | i + 1 => by unfold c1j; rw [P1, d1e s x i]
def f1z (s b : List Int) : (tkK s b).length = s.length := d1e _ _ _
def f2a {s b : List Int} (hs : s.length = 8) (hb : isB b) : a9u s b = tkK s b := by
 unfold a9u tkK d0m
 rw [<- d1d hb 64 (B9 _), d7d s KL (t8 b 64) 63, e6v]
 exact e0e hs rfl
def d1f : ∀ (k : Nat) (s xs : List Int), s.length = 8 -> (∀ x ∈ xs, ∃ c : Nat, c < 256 /\ x = (c : Int)) -> a1s a9u k s xs = a1s tkK k s xs
 | 0, _, _, _, _ => rfl
 | k + 1, s, xs, hs, hx => by
  have hb : isB (xs.take 64) := fun i => by
   unfold gi; rw [B3]; cases hq : (xs.take 64)[i]? with
   | none => exact ⟨0, by omega, rfl⟩
   | some y => exact hx y (T5 (I1 hq))
  show a1s a9u k (a9u s (xs.take 64)) (xs.drop 64) = a1s tkK k (tkK s (xs.take 64)) (xs.drop 64); rw [f2a hs hb]; exact d1f k _ _ (by rw [f1z, hs]) fun x h => hx x (List.mem_of_mem_drop h)
def f2b {b : List UInt8} (h : b.length <= 1000000) : c1n b = (b.length : Int) := by
 unfold c1n; rw [Int.zero_add]; exact t6 (by omega)
def d7e {b : List UInt8} (h : b.length <= 1000000) : u8s (a4e b) = c3l (lbI (c1n b)) b := by
 rw [f2b h]
 unfold a4e c3l lbs
 simp only [b3s, a6w, zP, u8s, F5, C9, L0, List.map_replicate, B6]
 rfl
def d7f {b : List UInt8} (h : b.length <= 1000000) : a2p b = a5c b := by
 unfold a2p a5c
 have hs := f7r tkK (lbI (c1n b)) b SL (f := b.length + 1) (bl := replicate 64 0) (N4 _) (by simp)
 unfold wrW
 rw [hs, d1f _ _ _ rfl, d7e h]
 ·congr 2
  have := congrArg length (d7e h); rw [C5] at this; rw [this]
 ·intro x hx; obtain ⟨y, _, rfl⟩ := E1.1 hx; exact ⟨y.toNat, y.toNat_lt, rfl⟩
abbrev Γak : Nat -> Option (Con D) := j6 (j6 noC 49 a4c) 78 b7z
def Kak : o8 EF Tp Γak noO := (K0.c f9y).c d4e
def Zak : ZF Tp D := (Z0.side Kak).skip
abbrev a9g (from_ : Int) (c : i4) : i8 := b1e from_ c.view c.node (a5c (j0 c))
def d1g : Con D := { ts := [.int, .st 3], rt := [.st 7], pre := some (fun a => isW a.2.1), ret := fun a => (a9g a.1 a.2.1, ()) }
def g0c : d1g.ok Tp 35 := Con.proveS (c := d1g) EF Zak Kak (fun i : Int × (Int × Int × UInt8) => (i.1, a0g i.2.1 i.2.2.1 i.2.2.2, ())) (fun i => b5b i.2) (fun a ⟨j, h, hq⟩ => ⟨(a.1, j), by obtain ⟨x, y, u⟩ := a; have h : y = _ := h; rw [h], hq⟩) (H := fun _ _ _ => some (.unr 40)) (n := 6) fun (i : Int × (Int × Int × UInt8)) (hq : b5b i.2) =>
 have hW : isW (a0g i.2.1 i.2.2.1 i.2.2.2) := ⟨i.2, rfl, hq⟩
 have hl := d6v hW
 pQ (∃ j : Int × Int × UInt8, (a0g i.2.1 i.2.2.1 i.2.2.2, ()) = (a0g j.1 j.2.1 j.2.2, ()) /\ b5b j) ⟨i.2, rfl, hq⟩ (
 brL fun _ : (j0 (a0g i.2.1 i.2.2.1 i.2.2.2)).length <= i5 =>
 bq (decide (65536 < ((j0 (a0g i.2.1 i.2.2.1 i.2.2.2)).length : Int))) (fun h => (by have := A6 h; omega : some (b1e i.1 i.2.2.1 i.2.1 Dig.zero, ()) = some (d1g.ret (i.1, a0g i.2.1 i.2.2.1 i.2.2.2, ())))) (fun _ =>
 pQ ((j0 (a0g i.2.1 i.2.2.1 i.2.2.2)).length <= 1000000) (by omega) (
 bN (Nat.ble ((0 + (j0 (a0g i.2.1 i.2.2.1 i.2.2.2)).length) * m6 Tp 5) i5) (by rw [mb5]; exact D3 (by unfold i5; omega)) (
 (by rw [d7f (by omega)]; rfl : some (b1e i.1 i.2.2.1 i.2.1 (a2p (j0 (a0g i.2.1 i.2.2.1 i.2.2.2))), ()) = some (d1g.ret (i.1, a0g i.2.1 i.2.2.1 i.2.2.2, ())))))))
def a9z : Con D := { ts := [.sl (.st 7), .sl (.st 7)], rt := [.bool], ret := fun a => (eqB (α := i8) a.1 a.2.1, ()) }
def f5f : a9z.ok Tp 66 := Con.prove (c := a9z) EF Zh Kh (H := fun a f r => match f, r with | 66, 4 => some (.inv (a2n (α := i8) a.1 a.2.1 5)) | _, _ => none) (n := 2) fun (a : HL D a9z.ts) (_ : a9z.holds a) =>
 brL fun h1 : a.1.length <= i5 => brL fun h2 : a.2.1.length <= i5 =>
 bq (((a.1.length : Nat) : Int) != ((a.2.1.length : Nat) : Int)) (fun h3 => (by rw [show a9z.ret a = (eqB (α := i8) a.1 a.2.1, ()) from rfl, eqN (α := i8) h3]; rfl : some (false, ()) = some (a9z.ret a)))
 (fun h3 => have hl := b4y (α := i8) (xs := a.1) (ys := a.2.1) h3
 And.intro (⟨(0 : Nat), rfl, rfl, rfl, ⟨C0 _, rfl⟩⟩ : Ent (a2n (α := i8) a.1 a.2.1 5) [iv 0] [] [])
 fun (i : Nat) (hI : i <= a.1.length /\ a.1.take i = a.2.1.take i) =>
 brL fun _ : a.1.length <= i5 =>
 bq (decide ((i : Int) < (a.1.length : Int))) (fun h6 => have hi : i < a.1.length := by have := A6 h6; omega
  bN (iX (i : Int) (a.1.length : Int)) (by simp; omega) (
  bN (iX (i : Int) (a.2.1.length : Int)) (by simp; omega) (
  bq (!dq (α := i8) (getD a.1 (Int.toNat (i : Int)) (Ty.dflt D (.st 7) : i8)) (getD a.2.1 (Int.toNat (i : Int)) (Ty.dflt D (.st 7) : i8))) (fun h7 =>
   (by rw [show a9z.ret a = (eqB (α := i8) a.1 a.2.1, ()) from rfl, b0y (α := i8) (i := i) (d := (Ty.dflt D (.st 7) : i8)) (nde h7)]; rfl : some (false, ()) = some (a9z.ret a)))
  (fun h7 => a5d (α := i8) (xs := a.1) (ys := a.2.1) (k := 5) (d := (Ty.dflt D (.st 7) : i8)) hI hi h1 hl (b4z h7)))))
 (fun h6 => (by rw [show a9z.ret a = (eqB (α := i8) a.1 a.2.1, ()) from rfl, b0z (α := i8) (i := i) (by have := A9 h6; omega) hl hI]; rfl : some (true, ()) = some (a9z.ret a))))
def b5i : Con D := { ts := [.sl (.st 3), .sl (.st 3)], rt := [.bool], ret := fun a => (eqB (α := i4) a.1 a.2.1, ()) }
def f5g : b5i.ok Tp 48 := Con.prove (c := b5i) EF Zh Kh (H := fun a f r => match f, r with | 48, 4 => some (.inv (a2n (α := i4) a.1 a.2.1 5)) | _, _ => none) (n := 2) fun (a : HL D b5i.ts) (_ : b5i.holds a) =>
 brL fun h1 : a.1.length <= i5 => brL fun h2 : a.2.1.length <= i5 =>
 bq (((a.1.length : Nat) : Int) != ((a.2.1.length : Nat) : Int)) (fun h3 => (by rw [show b5i.ret a = (eqB (α := i4) a.1 a.2.1, ()) from rfl, eqN (α := i4) h3]; rfl : some (false, ()) = some (b5i.ret a)))
 (fun h3 => have hl := b4y (α := i4) (xs := a.1) (ys := a.2.1) h3
 And.intro (⟨(0 : Nat), rfl, rfl, rfl, ⟨C0 _, rfl⟩⟩ : Ent (a2n (α := i4) a.1 a.2.1 5) [iv 0] [] [])
 fun (i : Nat) (hI : i <= a.1.length /\ a.1.take i = a.2.1.take i) =>
 brL fun _ : a.1.length <= i5 =>
 bq (decide ((i : Int) < (a.1.length : Int))) (fun h6 => have hi : i < a.1.length := by have := A6 h6; omega
  bN (iX (i : Int) (a.1.length : Int)) (by simp; omega) (
  bN (iX (i : Int) (a.2.1.length : Int)) (by simp; omega) (
  bq (!dq (α := i4) (getD a.1 (Int.toNat (i : Int)) (Ty.dflt D (.st 3) : i4)) (getD a.2.1 (Int.toNat (i : Int)) (Ty.dflt D (.st 3) : i4))) (fun h7 =>
   (by rw [show b5i.ret a = (eqB (α := i4) a.1 a.2.1, ()) from rfl, b0y (α := i4) (i := i) (d := (Ty.dflt D (.st 3) : i4)) (nde h7)]; rfl : some (false, ()) = some (b5i.ret a)))
  (fun h7 => a5d (α := i4) (xs := a.1) (ys := a.2.1) (k := 5) (d := (Ty.dflt D (.st 3) : i4)) hI hi h1 hl (b4z h7)))))
 (fun h6 => (by rw [show b5i.ret a = (eqB (α := i4) a.1 a.2.1, ()) from rfl, b0z (α := i4) (i := i) (by have := A9 h6; omega) hl hI]; rfl : some (true, ()) = some (b5i.ret a))))
abbrev ΓL : Nat -> Option (Con D) := j6 (j6 (j6 (j6 (j6 (j6 (j6 (j6 Γk 34 e6l) 66 a9z) 48 b5i) 23 a4o) 35 d1g) 13 b2b) 14 b6u) 9 a3k
abbrev ΔL : Nat -> Option (j8 D) := a0h (a0h (a0h (a0h (a0h Δc 10 c7o) 12 a5o) 20 a9t) 26 c1x) 11 c3n
abbrev ΛL : Nat -> Option (j8 D) := a0h (a0h (a0h (a0h (fun _ => none) 15 b3q) 22 b2z) 24 c1w) 25 b5e
def KL1 : o8 EF Tp ΓL ΔL := (((((((((((((Kk.c e6m).c f5f).c f5g).c b2c).c g0c).c e5l).c f1c).c d0q).o g7g).o g7f).o f9q).o g7e).o f4p)
def Ll : a1j EF Tp ΛL := (((a1j.nil.o f5d).o e6j).o e6d).o e6f
def ZL : ZF Tp D := (Z0.side KL1).skip
def b8u (k : KD) (n : i8) (want : List i8) : (Bool × Unit) × KD := ((bif (a4d k n).1.2.1 == 0 then eqB (α := i8) (a4d k n).1.1 want else false, ()), (a4d k n).2)
def c5m : j8 D := { ash := [.nm 0, .dat (.st 7), .dat (.sl (.st 7))], es := KS, rsh := [.dat .bool], pes := KS, pre := some (fun a _ => b5c a.1), post := fun a k => b8u k a.1 a.2.1 }
def g0d : c5m.ok EF Tp 47 := j8.proveH (c := c5m) EF ZL (H := fun _ _ _ _ => none) (call := fun _ _ => a5m EF ZL ΛL ΓL ΔL (fun _ _ => none) 3) (fun _ _ => a1t Ll KL1 3) fun (a : CL D c5m.ash) (k : KD) (hp : c5m.holds a k) =>
 pQ (b5c a.1) hp (
 (rfl : some ((bif (a4d k a.1).1.2.1 == 0 then eqB (α := i8) (a4d k a.1).1.1 a.2.1 else false, ()), (a4d k a.1).2) = some (c5m.post a k)))
abbrev ΔM : Nat -> Option (j8 D) := a0h ΔL 47 c5m
def KM1 : o8 EF Tp ΓL ΔM := KL1.o g0d
structure Fct (f me : Int) (ch : List (Int × a0f)) (ak : List (a0o × Ack)) (k : KD) : Prop where
  hd : k.1 = (a3d f, me, 1, 1, ())
  ch : kCh k = ch
  ak : kAk k = ak
def b9l {f n : Int} (hf : f = 1 ∨ f = 2) (h1 : 1 <= n) (h2 : n <= 3 * f + 1) : b6y (a3d f) n = true := by
 have := d7c (f := f) (self := n) ⟨hf, h1, h2⟩
 cases h : b6y (a3d f) n with
 | true => rfl
 | false =>
  rw [h] at this; cases a1d (a3d f) != 0 <;> simp at this
section
variable {f me : Int} {ch : List (Int × a0f)} {ak : List (a0o × Ack)} {k : KD}
def Fct.cr (h : Fct f me ch ak k) : kCr k = a3d f := by show k.1.1 = _; rw [h.hd]
def Fct.sf (h : Fct f me ch ak k) : kSf k = me := by show k.1.2.1 = _; rw [h.hd]
def Fct.gr (h : Fct f me ch ak k) : kGr k = 1 := by show k.1.2.2.1 = _; rw [h.hd]
def Fct.ep (h : Fct f me ch ak k) : kEp k = 1 := by show k.1.2.2.2.1 = _; rw [h.hd]
def Fct.ink (h : Fct f me ch ak k) (b : List UInt8) : Fct f me ch ak (a2f k b) := ⟨h.hd, h.ch, h.ak⟩
def e0f (h : Fct f me ch ak k) (hf : f = 1 ∨ f = 2) {n v : Int} {b : UInt8} (h1 : 1 <= n) (h2 : n <= 3 * f + 1) (hn : n ≠ me) : a4d k (a3i (a0g n v b)) = a8o k (a3i (a0g n v b)) := by
 unfold a4d
 rw [h.gr, h.ep, h.cr, h.sf]
 show (bif (bif !((7 : Int) == 8) then (7 : Int) != 7 else false) then _ else bif (1 : Int) != 1 then _ else bif (1 : Int) != 1 then _ else bif !b6y (a3d f) n then _ else bif n == me then _ else bif (7 : Int) == 8 then _ else _) = _
 rw [b9l hf h1 h2, show (n == me) = false by simpa using hn]
 rfl
def e6w (h : Fct f me ch ak k) (hf : f = 1 ∨ f = 2) {x : Int} {c : i4} (h1 : 1 <= x) (h2 : x <= 3 * f + 1) (hn : x ≠ me) (h3 : 1 <= c.node) (h4 : c.node <= 3 * f + 1) : a4d k (a9g x c) = (([], (a1l k (a9g x c)).1.1, ()), (a1l k (a9g x c)).2) := by
 unfold a4d
 rw [h.gr, h.ep, h.cr, h.sf]
 show (bif (bif !((8 : Int) == 8) then (8 : Int) != 7 else false) then _ else bif (1 : Int) != 1 then _ else bif (1 : Int) != 1 then _ else bif !b6y (a3d f) x then _ else bif x == me then _ else bif (8 : Int) == 8 then (bif !b6y (a3d f) c.node then _ else _) else _) = _
 rw [b9l hf h1 h2, b9l hf h3 h4, show (x == me) = false by simpa using hn]
 rfl
def e0g (h : Fct f me ch ak k) {n v : Int} {b : UInt8} (hv : (sd ch n).change.view < v) : (a8o k (a3i (a0g n v b))).1 = ([a9g me (a0g n v b)], 0, ()) /\ Fct f me (m9 (E := D) .int (.st 8) ch n (dgS (a0g n v b))) ak (a8o k (a3i (a0g n v b))).2 := by
 have e : a8o k (a3i (a0g n v b)) = (([a3b k (dgS (a0g n v b))], 0, ()), c1v (a2f k (j0 (a0g n v b))) (m9 (E := D) .int (.st 8) (kCh k) n (dgS (a0g n v b)))) := by
  unfold a8o; rw [h.ch]; show (bif decide (v < (sd ch n).change.view) then _ else bif (bif (sd ch n).change.view == v then !dq (α := i4) (sd ch n).change (a0g n v b) else false) then _ else bif (sd ch n).change.view == v then _ else _) = _; rw [show decide (v < (sd ch n).change.view) = false by simp; omega, show ((sd ch n).change.view == v) = false by simp; omega]
  rfl
 rw [e]
 refine ⟨?_, ⟨h.hd, by show m9 (E := D) .int (.st 8) (kCh k) n _ = _; rw [h.ch], h.ak⟩⟩
 show ([a3b k (dgS (a0g n v b))], 0, ()) = _
 unfold a3b
 rw [h.sf, h.gr, h.ep]
 rfl
end
def KZ (f me : Int) (ch : List (Int × a0f)) (ak : List (a0o × Ack)) : KD := ((a3d f, me, 1, 1, ()), (0, ()), ch, ak, [], [], ())
section
variable {f me : Int} {ch : List (Int × a0f)} {ak : List (a0o × Ack)} {k : KD}
def Fct.open (h : Fct f me ch ak k) : ∃ c s m, k = ((a3d f, me, 1, 1, ()), c, ch, ak, s, m, ()) := by
 obtain ⟨a, c, x, y, s, m, ⟨⟩⟩ := k
 obtain ⟨h1, h2, h3⟩ := h
 have h1 : a = _ := h1
 have h2 : x = ch := h2
 have h3 : y = ak := h3
 subst h1 h2 h3
 exact ⟨c, s, m, rfl⟩
def Fct.rdy (h : Fct f me ch ak k) (v : Int) : a2q k v (a0i k) = a2q (KZ f me ch ak) v (a0i (KZ f me ch ak)) := by
 obtain ⟨c, x, m, rfl⟩ := h.open; rfl
def Fct.jn (h : Fct f me ch ak k) (v : Int) : jnP k v = jnP (KZ f me ch ak) v := by
 obtain ⟨c, x, m, rfl⟩ := h.open; rfl
def Fct.bh (h : Fct f me ch ak k) (v : Int) : bhC k v (a0t k) = bhC (KZ f me ch ak) v (a0t (KZ f me ch ak)) := by
 obtain ⟨c, x, m, rfl⟩ := h.open; rfl
def Fct.vch (h : Fct f me ch ak k) (c : i4) : a9y k c = a9y (KZ f me ch ak) c := by
 obtain ⟨c, x, m, rfl⟩ := h.open; rfl
def e0h (h : Fct f me ch ak k) {x v n : Int} {d : Dig} (hv : (akG ak ⟨x, n⟩).view < v) : (a1l k (b1e x v n d)).1.1 = 0 /\ Fct f me ch (m9 (E := D) (.st 10) (.st 9) ak ⟨x, n⟩ ⟨v, d⟩) (a1l k (b1e x v n d)).2 := by
 have e : a1l k (b1e x v n d) = ((0, ()), f9m k (m9 (E := D) (.st 10) (.st 9) (kAk k) ⟨x, n⟩ ⟨v, d⟩)) := by
  unfold a1l; rw [h.ak]; show (bif decide (v < (akG ak ⟨x, n⟩).view) then _ else bif (bif (akG ak ⟨x, n⟩).view == v then _ else false) then _ else _) = _; rw [show decide (v < (akG ak ⟨x, n⟩).view) = false by simp; omega, show ((akG ak ⟨x, n⟩).view == v) = false by simp; omega]
  rfl
 rw [e]
 exact ⟨rfl, ⟨h.hd, h.ch, by show m9 (E := D) (.st 10) (.st 9) (kAk k) _ _ = _; rw [h.ak]⟩⟩
def Fct.okK (h : Fct f me ch ak k) (hf : f = 1 ∨ f = 2) (hl : ch.length <= 1000) (hc : ∀ p ∈ ch, okC p.2.change /\ -1000000 <= p.1 /\ p.1 <= 1000000) : okK k := by
 obtain ⟨c, x, m, rfl⟩ := h.open
 refine ⟨c5j f, ?_, ?_, hl, hc⟩
 ·show 1 <= a1y (a3d f); rcases hf with rfl | rfl <;> decide
 ·show a1y (a3d f) <= 1000000; rcases hf with rfl | rfl <;> decide
end
def nmd {α : Type} {a : α} {K : α -> Prop} (h : ∀ q, a = q -> K q) : Nmd a K := ⟨h⟩
theorem nM {α : Type} (a : α) {K : α -> Prop} (h : ∀ q, a = q -> K q) : Nmd a K := .mk h
abbrev a0v : i4 := a0g 1 2 1
abbrev a2j : i4 := a0g 3 2 3
abbrev a0p : i4 := a0g 4 2 4
def d7g {k : KD} {s : a0f} {wo x : Int} (h1 : x ≠ wo) (h2 : x ≠ kSf k) (h : akG (kAk k) ⟨x, s.change.node⟩ = ⟨s.change.view, s.dig⟩) : hrB k s wo x = true := by
 unfold hrB
 rw [show (x == wo) = false by simpa using h1, show (x == kSf k) = false by simpa using h2, h]
 simp
section
variable (d e g : Dig)
def aw1 : a2q (KZ 1 2 [(1, ⟨a0v, d⟩)] []) 2 (a0i (KZ 1 2 [(1, ⟨a0v, d⟩)] [])) = [] := rfl
def aw2 : hrN (KZ 1 2 [(1, ⟨a0v, d⟩)] [(⟨3, 1⟩, ⟨2, d⟩)]) ⟨a0v, d⟩ 2 = 1 := by
 have h3 : hrB (KZ 1 2 [(1, ⟨a0v, d⟩)] [(⟨3, 1⟩, ⟨2, d⟩)]) ⟨a0v, d⟩ 2 3 = true := d7g (show (3 : Int) ≠ 2 by decide) (show (3 : Int) ≠ 2 by decide) rfl
 have h2 : hrB (KZ 1 2 [(1, ⟨a0v, d⟩)] [(⟨3, 1⟩, ⟨2, d⟩)]) ⟨a0v, d⟩ 2 2 = false := rfl
 have h4 : hrB (KZ 1 2 [(1, ⟨a0v, d⟩)] [(⟨3, 1⟩, ⟨2, d⟩)]) ⟨a0v, d⟩ 2 4 = false := rfl
 show [2, 3, 4].countP _ = 1
 simp [M7, h2, h3, h4]
def aw3 : a2q (KZ 1 2 [(1, ⟨a0v, d⟩)] [(⟨3, 1⟩, ⟨2, d⟩)]) 2 (a0i (KZ 1 2 [(1, ⟨a0v, d⟩)] [(⟨3, 1⟩, ⟨2, d⟩)])) = [a0v] := by
 have h : rdyB (KZ 1 2 [(1, ⟨a0v, d⟩)] [(⟨3, 1⟩, ⟨2, d⟩)]) 2 1 = true := by
  show (bif (2 : Int) == 2 then (bif (1 : Int) == 2 then true else decide (f1t (KZ 1 2 [(1, ⟨a0v, d⟩)] [(⟨3, 1⟩, ⟨2, d⟩)]) <= (hrN (KZ 1 2 [(1, ⟨a0v, d⟩)] [(⟨3, 1⟩, ⟨2, d⟩)]) ⟨a0v, d⟩ 2 : Int))) else false) = true; rw [aw2]; rfl
 show (([(1 : Int)].filter (rdyB (KZ 1 2 [(1, ⟨a0v, d⟩)] [(⟨3, 1⟩, ⟨2, d⟩)]) 2)).map fun x => (sd [(1, ⟨a0v, d⟩)] x).change) = [a0v]
 rw [K9, F8 h]
 rfl
def aw4 (ak : List (a0o × Ack)) : jnP (KZ 1 2 [(1, ⟨a0v, d⟩)] ak) 0 = (0, false, ()) := rfl
def aw5 (ak : List (a0o × Ack)) : jnP (KZ 1 2 [(1, ⟨a0v, d⟩), (3, ⟨a2j, e⟩)] ak) 0 = (2, true, ()) := rfl
def aw6 (ak : List (a0o × Ack)) : jnP (KZ 1 2 [(1, ⟨a0v, d⟩), (3, ⟨a2j, e⟩)] ak) 2 = (0, false, ()) := rfl
def aw7 (ak : List (a0o × Ack)) : bhC (KZ 1 2 [(1, ⟨a0v, d⟩), (3, ⟨a2j, e⟩)] ak) 2 (a0t (KZ 1 2 [(1, ⟨a0v, d⟩), (3, ⟨a2j, e⟩)] ak)) = 2 := rfl
def aw8 (ak : List (a0o × Ack)) : bhC (KZ 1 2 [(1, ⟨a0v, d⟩), (3, ⟨a2j, e⟩)] ak) 3 (a0t (KZ 1 2 [(1, ⟨a0v, d⟩), (3, ⟨a2j, e⟩)] ak)) = 0 := rfl
abbrev chT : List (Int × a0f) := [(1, ⟨a0v, d⟩), (3, ⟨a2j, e⟩)]
def aw9 : a9y (KZ 1 2 (chT d e) [(⟨3, 1⟩, ⟨2, d⟩)]) a0p = false := by
 have h1 : hrB (KZ 1 2 (chT d e) [(⟨3, 1⟩, ⟨2, d⟩)]) (dgS a0p) 0 1 = false := rfl
 have h2 : hrB (KZ 1 2 (chT d e) [(⟨3, 1⟩, ⟨2, d⟩)]) (dgS a0p) 0 2 = false := rfl
 have h3 : hrB (KZ 1 2 (chT d e) [(⟨3, 1⟩, ⟨2, d⟩)]) (dgS a0p) 0 3 = false := rfl
 have h : hrN (KZ 1 2 (chT d e) [(⟨3, 1⟩, ⟨2, d⟩)]) (dgS a0p) 0 = 0 := by
  show [1, 2, 3].countP _ = 0; simp [M7, h1, h2, h3]
 show (bif false then true else decide (2 <= (hrN (KZ 1 2 (chT d e) [(⟨3, 1⟩, ⟨2, d⟩)]) (dgS a0p) 0 : Int))) = false
 rw [h]; rfl
abbrev akA : List (a0o × Ack) := [(⟨3, 1⟩, ⟨2, d⟩), (⟨1, 4⟩, ⟨2, (dgS a0p).dig⟩)]
def h1r : a9y (KZ 1 2 (chT d e) (akA d)) a0p = false := by
 have h1 : hrB (KZ 1 2 (chT d e) (akA d)) (dgS a0p) 0 1 = true := d7g (show (1 : Int) ≠ 0 by decide) (show (1 : Int) ≠ 2 by decide) rfl
 have h2 : hrB (KZ 1 2 (chT d e) (akA d)) (dgS a0p) 0 2 = false := rfl
 have h3 : hrB (KZ 1 2 (chT d e) (akA d)) (dgS a0p) 0 3 = false := rfl
 have h : hrN (KZ 1 2 (chT d e) (akA d)) (dgS a0p) 0 = 1 := by
  show [1, 2, 3].countP _ = 1; simp [M7, h1, h2, h3]
 show (bif false then true else decide (2 <= (hrN (KZ 1 2 (chT d e) (akA d)) (dgS a0p) 0 : Int))) = false
 rw [h]; rfl
abbrev akB : List (a0o × Ack) := [(⟨3, 1⟩, ⟨2, d⟩), (⟨1, 4⟩, ⟨2, (dgS a0p).dig⟩), (⟨3, 4⟩, ⟨2, (dgS a0p).dig⟩)]
def h1s : a9y (KZ 1 2 (chT d e) (akB d)) a0p = true := by
 have h1 : hrB (KZ 1 2 (chT d e) (akB d)) (dgS a0p) 0 1 = true := d7g (show (1 : Int) ≠ 0 by decide) (show (1 : Int) ≠ 2 by decide) rfl
 have h2 : hrB (KZ 1 2 (chT d e) (akB d)) (dgS a0p) 0 2 = false := rfl
 have h3 : hrB (KZ 1 2 (chT d e) (akB d)) (dgS a0p) 0 3 = true := d7g (show (3 : Int) ≠ 0 by decide) (show (3 : Int) ≠ 2 by decide) rfl
 have h : hrN (KZ 1 2 (chT d e) (akB d)) (dgS a0p) 0 = 2 := by
  show [1, 2, 3].countP _ = 2; simp [M7, h1, h2, h3]
 show (bif false then true else decide (2 <= (hrN (KZ 1 2 (chT d e) (akB d)) (dgS a0p) 0 : Int))) = true
 rw [h]; rfl
end
section
variable {κ β : Type} [DecidableEq κ]
def e6x {l : List (κ × β)} (hn : (l.map (·.1)).Nodup) {p : κ × β} (hp : p ∈ l) : a1q l p.1 = some p.2 := by
 induction l with
 | nil => cases hp
 | cons q r ih =>
  rw [C9, L5] at hn; unfold a1q; rcases D2.1 hp with e | h
  ·subst e; rw [F8 rfl]
  ·have : q.1 ≠ p.1 := fun e => hn.1 (by rw [e]; exact List.mem_map_of_mem h)
   rw [F7 this]; exact ih hn.2 h
def a6x {l : List (κ × β)} {x y : κ} {v : β} : a1q (a3m l x v) y = if x = y then some v else a1q l y := by
 induction l with
 | nil => simp [a3m, a1q]
 | cons q r ih =>
  unfold a3m; by_cases e : q.1 = x
  ·rw [F8 e]; unfold a1q; by_cases e2 : x = y
   ·simp [e2]
   ·have : q.1 ≠ y := by rw [e]; exact e2
    simp [e2, this]
  ·rw [F7 e]; unfold a1q; rw [ih]; by_cases e2 : q.1 = y
   ·have : x ≠ y := by rw [<- e2]; exact fun h => e h.symm
    simp [e2, this]
   ·simp [e2]
end
abbrev d1h (l : List (Int × a0f)) (n : Int) (s : a0f) : List (Int × a0f) := m9 (E := D) .int (.st 8) l n s
def f2c {l : List (Int × a0f)} {n x : Int} {s : a0f} : sdO (d1h l n s) x = if n = x then some s else sdO l x := by
 have := @a6x Int a0f (Ty.dec D .int) l n x s
 refine Eq.trans this ?_
 by_cases e : n = x
 ·rw [F8 e, F8 e]
 ·rw [F7 e, F7 e]; rfl
def d1i {l : List (Int × a0f)} {n : Int} {s : a0f} (h : (l.map fun p : Int × a0f => p.1).Nodup) : ((d1h l n s).map fun p : Int × a0f => p.1).Nodup :=
 @a6m Int (Ty.dec D .int) a0f l n s h
def d4g {l : List (Int × a0f)} (hn : (l.map fun p : Int × a0f => p.1).Nodup) {p : Int × a0f} (hp : p ∈ l) : sdO l p.1 = some p.2 :=
 @e6x Int a0f (Ty.dec D .int) l hn p hp
abbrev akO (l : List (a0o × Ack)) (p : a0o) : Option Ack := a0z (E := D) (.st 10) (.st 9) l p
abbrev d7h (l : List (a0o × Ack)) (p : a0o) (a : Ack) : List (a0o × Ack) := m9 (E := D) (.st 10) (.st 9) l p a
def f2d {l : List (a0o × Ack)} {p q : a0o} {a : Ack} (h : p ≠ q) : akO (d7h l p a) q = akO l q := by
 have := @a6x a0o Ack (Ty.dec D (.st 10)) l p q a
 refine Eq.trans this ?_
 rw [F7 h]; rfl
def d4h {l : List (a0o × Ack)} {p : a0o} {a : Ack} : akO (d7h l p a) p = some a := by
 have := @a6x a0o Ack (Ty.dec D (.st 10)) l p p a
 refine Eq.trans this ?_
 rw [F8 rfl]
def g0e {A B : List Int} {x : Int} (h : (A ++ x :: B).Pairwise (· <= ·)) : B.length + 1 <= (A ++ x :: B).countP fun y => decide (x <= y) := by
 have h2 := (M2.1 (P5.1 h).2.1).1
 rw [M3, M7]
 have : B.countP (fun y => decide (x <= y)) = B.length := List.countP_eq_length.2 fun y hy => by simpa using h2 y hy
 rw [this]
 simp
def g0f {A B : List Int} {x w : Int} (h : (A ++ x :: B).Pairwise (· <= ·)) (hw : B.length + 1 <= (A ++ x :: B).countP fun y => decide (w <= y)) : w <= x := by
 apply Decidable.byContradiction
 intro hx
 have h2 := (P5.1 h).2.2
 rw [M3, M7] at hw
 have h3 : A.countP (fun y => decide (w <= y)) = 0 := Y0.2 fun y hy => by
  have := h2 y hy x E7
  simp; omega
 have h4 : B.countP (fun y => decide (w <= y)) <= B.length := O7
 rw [h3] at hw
 have : decide (w <= x) = false := by simpa using hx
 simp [this] at hw
 omega
def spl {S : List Int} {i : Nat} (hi : i < S.length) : ∃ A B x, S = A ++ x :: B /\ A.length = i /\ S.getD i 0 = x /\ B.length + 1 = S.length - i := by
 refine ⟨S.take i, S.drop (i + 1), S[i], ?_, by simp; omega, ?_, by simp; omega⟩
 ·rw [<- G9 hi, E6]
 ·rw [B3, B2 hi]; rfl
def brg (x n : Int) : Int := (c7g (x, n, ())).1
def g0g {x n : Int} (h1 : 0 < n) (h2 : n <= 1000000) : 0 <= brg x n /\ brg x n < n := by
 unfold brg c7g
 have e : decide (n <= (0 : Int)) = false := by simp; omega
 have hlt : Int.tmod x n < n := Int.tmod_lt_of_pos x h1
 have hgt : -n < Int.tmod x n := Int.lt_tmod_of_pos x h1
 simp only [e, B8]
 cases hd : decide (Int.tmod x n < 0) with
 | true =>
  have h3 : Int.tmod x n < 0 := A6 hd; simp only [B5]; rw [IntWalk.i64_in _ (by omega)]; omega
 | false => have := A9 hd; simp only [B8]; omega
section
variable {F : Nat} (hF : F = 1 ∨ F = 2) {l : List Int}
include hF
end
abbrev kP (p : EL D PS) : KD := (p.2.2.2.1, p.1, p.2.2.2.2.1, p.2.2.2.2.2.1, p.2.1, p.2.2.1, ())
section
variable {f me : Int} {ch : List (Int × a0f)} {ak : List (a0o × Ack)} {k : KD}
def d1j (h : Fct f me ch ak k) (hf : f = 1 ∨ f = 2) {n v : Int} {b : UInt8} (h1 : 1 <= n) (h2 : n <= 3 * f + 1) (hn : n ≠ me) (hv : (sd ch n).change.view < v) :
  (b8u k (a3i (a0g n v b)) [a9g me (a0g n v b)]).1.1 = true /\ Fct f me (m9 (E := D) .int (.st 8) ch n (dgS (a0g n v b))) ak (b8u k (a3i (a0g n v b)) [a9g me (a0g n v b)]).2 := by
 unfold b8u
 rw [e0f h hf h1 h2 hn]
 obtain ⟨g1, g2⟩ := e0g h (b := b) hv
 refine ⟨?_, g2⟩
 show (bif (a8o k (a3i (a0g n v b))).1.2.1 == 0 then eqB (a8o k (a3i (a0g n v b))).1.1 _ else false) = true
 rw [g1]
 show eqB [a9g me (a0g n v b)] [a9g me (a0g n v b)] = true
 unfold eqB; simp
def c7p (h : Fct f me ch ak k) (hf : f = 1 ∨ f = 2) {x : Int} {c : i4} (h1 : 1 <= x) (h2 : x <= 3 * f + 1) (hn : x ≠ me) (h3 : 1 <= c.node) (h4 : c.node <= 3 * f + 1) (hv : (akG ak ⟨x, c.node⟩).view < c.view) :
  (b8u k (a9g x c) []).1.1 = true /\ Fct f me ch (m9 (E := D) (.st 10) (.st 9) ak ⟨x, c.node⟩ ⟨c.view, (dgS c).dig⟩) (b8u k (a9g x c) []).2 := by
 unfold b8u
 rw [e6w h hf h1 h2 hn h3 h4]
 obtain ⟨g1, g2⟩ := e0h h (d := (dgS c).dig) hv
 refine ⟨?_, g2⟩
 show (bif (a1l k (b1e x c.view c.node (dgS c).dig)).1.1 == 0 then eqB ([] : List i8) [] else false) = true
 rw [g1]; rfl
def c2a (h : Fct f me ch ak k) (hf : f = 1 ∨ f = 2) {c : i4} (h3 : 1 <= c.node) (h4 : c.node <= 3 * f + 1) : (c3o k c).1.1 = a9y (KZ f me ch ak) c /\ Fct f me ch ak (c3o k c).2 := by
 have e : c3o k c = ((a9y k c, ()), a2f k (j0 c)) := by
  unfold c3o; rw [h.cr, b9l hf h3 h4]; rfl
 rw [e]
 exact ⟨h.vch c, h.ink _⟩
def c2b (x n v : Nat) (d : Dig) (h1 : x + 1 <= 28) (h2 : v + 1 <= 255) (h3 : n + 1 <= 28) (h4 : x ≠ n) : b5c (b1e ((x + 1 : Nat) : Int) ((v + 1 : Nat) : Int) ((n + 1 : Nat) : Int) d) :=
 .inr ⟨(x, v, n, fun j => d.l.getD j 0), congrArg (b1e ((x + 1 : Nat) : Int) ((v + 1 : Nat) : Int) ((n + 1 : Nat) : Int)) (f9i d), h1, h2, h3, h4⟩
end
def W1 : isW a0v := ⟨(1, 2, 1), rfl, by decide, by decide, by decide, by decide⟩
def W3 : isW a2j := ⟨(3, 2, 3), rfl, by decide, by decide, by decide, by decide⟩
def W4 : isW a0p := ⟨(4, 2, 4), rfl, by decide, by decide, by decide, by decide⟩
def f2e {d e : Dig} : ∀ p ∈ chT d e, okC p.2.change /\ -1000000 <= p.1 /\ p.1 <= 1000000 := by
 intro p hp
 simp only [chT, D2, H4, R1] at hp
 rcases hp with rfl | rfl
 ·exact ⟨b5d W1, show (-1000000 : Int) <= 1 by decide, show (1 : Int) <= 1000000 by decide⟩
 ·exact ⟨b5d W3, show (-1000000 : Int) <= 3 by decide, show (3 : Int) <= 1000000 by decide⟩
def f5h {d : Dig} : ∀ p ∈ [((1 : Int), (⟨a0v, d⟩ : a0f))], okC p.2.change /\ -1000000 <= p.1 /\ p.1 <= 1000000 := by
 intro p hp
 rw [F3] at hp
 subst hp
 exact ⟨b5d W1, show (-1000000 : Int) <= 1 by decide, show (1 : Int) <= 1000000 by decide⟩
def d1k : Con D := { ts := [], rt := [.bool], ret := fun _ => (true, ()) }
def g0h : d1k.ok Tp 16 := Con.proveH (c := d1k) EF ZL (H := fun _ _ _ => none) (call := fun _ => a4n EF ZL ΛL ΓL ΔM (fun _ _ => none) 4) (fun _ => a1i Ll KM1 4) fun (a : HL D d1k.ts) (_ : d1k.holds a) =>
 have hf : (1 : Int) = 1 ∨ (1 : Int) = 2 := .inl rfl
 nM (c3n.post () ()) (fun q1 _ =>
 pQ (okF 1 2) ⟨.inl rfl, by decide, by decide⟩ (
 nM (c7o.post ((1 : Int), (2 : Int), ()) q1.2) (fun q2 h2 =>
 have F0 : Fct 1 2 [] [] (kP q2.2) := by rw [<- h2]; exact ⟨rfl, rfl, rfl⟩
 pQ (isW a0v) W1 (
 pQ (b5c (a3i a0v)) (.inl ⟨(0, 1, 1), rfl, by decide, by decide⟩) (
 nM (b8u (kP q2.2) (a3i a0v) [a9g 2 a0v]) (fun q3 h3 =>
 have G3 : q3.1.1 = true /\ Fct 1 2 [(1, dgS a0v)] [] q3.2 := by rw [<- h3]; exact d1j F0 hf (by decide) (by decide) (by decide) (by decide)
 bq (!q3.1.1) (fun h => (by rw [G3.1] at h; exact absurd h (by decide) : some (false, ()) = some (true, ()))) (fun _ =>
 have O3 := G3.2.okK hf (by decide) f5h
 pQ (okK q3.2) O3 (
 nM (a2q q3.2 2 (a0i q3.2), ()) (fun q5 h5 =>
 have G5 : q5.1 = [] := by rw [<- h5]; exact (G3.2.rdy 2).trans (aw1 _)
 brL fun _ : q5.1.length <= i5 =>
 bq (((q5.1.length : Nat) : Int) != 0) (fun h => (by rw [G5] at h; exact absurd h (by decide) : some (false, ()) = some (true, ()))) (fun _ =>
 pQ (isW a0v) W1 (
 pQ (b5c (a9g 3 a0v)) (c2b 2 0 1 _ (by decide) (by decide) (by decide) (by decide)) (
 nM (b8u q3.2 (a9g 3 a0v) []) (fun q8 h8 =>
 have G8 : q8.1.1 = true /\ Fct 1 2 [(1, dgS a0v)] [(⟨3, 1⟩, ⟨2, (dgS a0v).dig⟩)] q8.2 := by rw [<- h8]; exact c7p G3.2 hf (by decide) (by decide) (by decide) (by decide) (by decide) (by decide)
 bq (!q8.1.1) (fun h => (by rw [G8.1] at h; exact absurd h (by decide) : some (false, ()) = some (true, ()))) (fun _ =>
 have O8 := G8.2.okK hf (by decide) f5h
 b2n (pQ (okK q8.2) O8 (
 nM (a2q q8.2 2 (a0i q8.2), ()) (fun q10 h10 =>
 have G10 : q10.1 = [a0v] := by rw [<- h10]; exact (G8.2.rdy 2).trans (aw3 _)
 bq (!eqB (α := i4) q10.1 [a0v]) (fun h => (by rw [G10] at h; unfold eqB at h; simp at h : some (false, ()) = some (true, ()))) (fun _ =>
 pQ (okK q8.2) O8 (
 nM (jnP q8.2 0) (fun q12 h12 =>
 have G12 : q12 = (0, false, ()) := by rw [<- h12]; exact (G8.2.jn 0).trans (aw4 _ _)
 pQ (isW a2j) W3 (
 pQ (b5c (a3i a2j)) (.inl ⟨(2, 1, 3), rfl, by decide, by decide⟩) (
 nM (b8u q8.2 (a3i a2j) [a9g 2 a2j]) (fun q13 h13 =>
 have G13 : q13.1.1 = true /\ Fct 1 2 (chT (dgS a0v).dig (dgS a2j).dig) [(⟨3, 1⟩, ⟨2, (dgS a0v).dig⟩)] q13.2 := by rw [<- h13]; exact d1j G8.2 hf (by decide) (by decide) (by decide) (by decide)
 have O13 := G13.2.okK hf (by decide) f2e
 pQ (okK q13.2) O13 (
 nM (jnP q13.2 0) (fun q14 h14 =>
 have G14 : q14 = (2, true, ()) := by rw [<- h14]; exact (G13.2.jn 0).trans (aw5 _ _ _)
 pQ (okK q13.2) O13 (
 nM (jnP q13.2 2) (fun q15 h15 =>
 have G15 : q15 = (0, false, ()) := by rw [<- h15]; exact (G13.2.jn 2).trans (aw6 _ _ _)
 pQ (isW a0p /\ okK q13.2) ⟨W4, O13⟩ (
 nM (c3o q13.2 a0p) (fun q16 h16 =>
 have G16 : q16.1.1 = false /\ Fct 1 2 (chT (dgS a0v).dig (dgS a2j).dig) [(⟨3, 1⟩, ⟨2, (dgS a0v).dig⟩)] q16.2 := by rw [<- h16]; have := c2a G13.2 hf (c := a0p) (by decide) (by decide); exact ⟨this.1.trans (aw9 _ _), this.2⟩
 bq (bif bif bif bif bif !q12.2.1 then q13.1.1 else false then q14.2.1 else false then q14.1 == 2 else false then !q15.2.1 else false then !q16.1.1 else false) (fun _ =>
 pQ (isW a0p) W4 (
 pQ (b5c (a9g 1 a0p)) (c2b 0 3 1 _ (by decide) (by decide) (by decide) (by decide)) (
 nM (b8u q16.2 (a9g 1 a0p) []) (fun q18 h18 =>
 have G18 : q18.1.1 = true /\ Fct 1 2 (chT (dgS a0v).dig (dgS a2j).dig) (akA (dgS a0v).dig) q18.2 := by rw [<- h18]; exact c7p G16.2 hf (by decide) (by decide) (by decide) (by decide) (by decide) (by decide)
 bq (q18.1.1) (fun _ =>
 have O18 := G18.2.okK hf (by decide) f2e
 pQ (isW a0p /\ okK q18.2) ⟨W4, O18⟩ (
 nM (c3o q18.2 a0p) (fun q20 h20 =>
 have G20 : q20.1.1 = false /\ Fct 1 2 (chT (dgS a0v).dig (dgS a2j).dig) (akA (dgS a0v).dig) q20.2 := by rw [<- h20]; have := c2a G18.2 hf (c := a0p) (by decide) (by decide); exact ⟨this.1.trans (h1r _ _), this.2⟩
 bq (!q20.1.1) (fun _ =>
 pQ (isW a0p) W4 (
 pQ (b5c (a9g 3 a0p)) (c2b 2 3 1 _ (by decide) (by decide) (by decide) (by decide)) (
 nM (b8u q20.2 (a9g 3 a0p) []) (fun q22 h22 =>
 have G22 : q22.1.1 = true /\ Fct 1 2 (chT (dgS a0v).dig (dgS a2j).dig) (akB (dgS a0v).dig) q22.2 := by rw [<- h22]; exact c7p G20.2 hf (by decide) (by decide) (by decide) (by decide) (by decide) (by decide)
 bq (q22.1.1) (fun _ =>
 have O22 := G22.2.okK hf (by decide) f2e
 pQ (isW a0p /\ okK q22.2) ⟨W4, O22⟩ (
 nM (c3o q22.2 a0p) (fun q24 h24 =>
 have G24 : q24.1.1 = true /\ Fct 1 2 (chT (dgS a0v).dig (dgS a2j).dig) (akB (dgS a0v).dig) q24.2 := by rw [<- h24]; have := c2a G22.2 hf (c := a0p) (by decide) (by decide); exact ⟨this.1.trans (h1s _ _), this.2⟩
 have O24 := G24.2.okK hf (by decide) f2e
 bq (q24.1.1) (fun _ =>
 pQ (okK q24.2) O24 (
 nM (((bhC q24.2 2 (a0t q24.2) : Nat) : Int), ()) (fun q26 h26 =>
 have G26 : q26.1 = 2 := by rw [<- h26]; show ((bhC q24.2 2 (a0t q24.2) : Nat) : Int) = 2; rw [G24.2.bh 2, aw7]; rfl
 bq (q26.1 == 2) (fun _ =>
 pQ (okK q24.2) O24 (
 nM (((bhC q24.2 3 (a0t q24.2) : Nat) : Int), ()) (fun q28 h28 =>
 have G28 : q28.1 = 0 := by rw [<- h28]; show ((bhC q24.2 3 (a0t q24.2) : Nat) : Int) = 0; rw [G24.2.bh 3, aw8]; rfl
 (by rw [G28]; rfl : some (q28.1 == 0, ()) = some (true, ()))))) (fun h => (by rw [G26] at h; exact absurd h (by decide) : some (false, ()) = some (true, ())))))) (fun h => (by rw [G24.1] at h; exact absurd h (by decide) : some (false, ()) = some (true, ())))))) (fun h => (by rw [G22.1] at h; exact absurd h (by decide) : some (false, ()) = some (true, ()))))))) (fun h => (by rw [G20.1] at h; exact absurd h (by decide) : some (false, ()) = some (true, ())))))) (fun h => (by rw [G18.1] at h; exact absurd h (by decide) : some (false, ()) = some (true, ()))))))) (fun h => (by rw [G12, G13.1, G14, G15, G16.1] at h; exact absurd h (by decide) : some (false, ()) = some (true, ()))))))))))))))))))))))))))))))))
section
variable (f : Int) (w : a7y)
end
section
variable {f : Int} (hf : f = 1 ∨ f = 2) {w : a7y}
include hf
end
section
variable {f : Int} {i : Nat} {k : KD}
end
section
variable {f : Int} (hf : f = 1 ∨ f = 2) {w : a7y} {q : Int × Unit}
end
section
variable {B V : Int} {F : UInt8} {k : KD}
variable {b : UInt8}
end
end
end Go.Proofs.YtpbcabanpppfoaaGreat
namespace Go.Vz
open Go Go.Gx
noncomputable section
def slL {E : DE} (t : Ty) (s : St E) (k : Nat) : List (t.den E) := match gSl t (slV s k) with | some l => l | none => []
end
end Go.Vz
namespace Go.Proofs.YtpbcabanpppfoaaGreat
open Go Go.Gx Go.Vz
open Go.IntKind (wrap)
open List (flatMap getD length take replicate)
set_option maxRecDepth 100000
noncomputable section
end
end Go.Proofs.YtpbcabanpppfoaaGreat
namespace Go.Proofs.YtpbcabanpppfoaaGreat
open Go Go.Gx Go.Vz
open Go.IntKind (wrap)
open List (flatMap getD length take replicate)
set_option maxRecDepth 100000
noncomputable section
section
variable {f v : Int} {i j : Nat} {k k2 : KD} {r : List i4} {n : Nat} {z : i4}
end
end
end Go.Proofs.YtpbcabanpppfoaaGreat
namespace Go.Vz
open Go Go.Gx
noncomputable section
def owL {E : DE} (t : Ty) (s : St E) (k : Nat) : List (t.den E) := match owH s k with
 | .arr u _ xs => (match Ty.to (fun t => List (t.den E)) u t xs with | some ys => ys | none => [])
 | _ => []
end
end Go.Vz
namespace Go.Proofs.YtpbcabanpppfoaaGreat
open Go Go.Gx Go.Vz
open Go.IntKind (wrap)
open List (flatMap getD length take replicate)
set_option maxRecDepth 100000
noncomputable section
end
end Go.Proofs.YtpbcabanpppfoaaGreat
namespace Go.Proofs.YtpbcabanpppfoaaGreat
open Go Go.Gx Go.Vz
open Go.IntKind (wrap)
open List (flatMap getD length take replicate)
set_option maxRecDepth 100000
noncomputable section
def a6y : List UInt8 -> List UInt8 -> Bool
 | x :: a, y :: b => if x = y then a6y a b else decide (x.toNat < y.toNat)
 | _, _ => false
def d1l : ∀ {a b : List UInt8} {i : Nat} {x y : UInt8}, a.take i = b.take i -> a[i]? = some x -> b[i]? = some y -> x ≠ y -> a6y a b = decide (x.toNat < y.toNat)
 | [], _, i, x, y, _, h, _, _ => by simp at h
 | _ :: _, [], i, x, y, _, _, h, _ => by simp at h
 | p :: a, q :: b, 0, x, y, _, h1, h2, hn => by
  simp at h1 h2; subst h1 h2; unfold a6y; rw [F7 hn]
 | p :: a, q :: b, i + 1, x, y, ht, h1, h2, hn => by
  simp only [List.take_succ_cons, K7] at ht; unfold a6y; rw [F8 ht.1]; exact d1l ht.2 (by simpa using h1) (by simpa using h2) hn
def c2c : ∀ (a : List UInt8), a6y a a = false
 | [] => rfl
 | x :: a => by unfold a6y; rw [F8 rfl]; exact c2c a
def g0i (d e : Dig) : LH D := ⟨Nat, [5], fun i => [iv (i : Int)], fun i => i <= 32 /\ d.l.take i = e.l.take i, fun i => 32 - i, [], fun _ => [], [], fun _ => []⟩
def d1m : Con D := { ts := [.dig, .dig], rt := [.bool], ret := fun a => (a6y a.1.l a.2.1.l, ()) }
def lsH (a : HL D d1m.ts) : Nat -> Nat -> Option (Hint D) := fun f r => match f, r with | 176, 2 => some (.inv (g0i a.1 a.2.1)) | _, _ => none
def u8F {x y : UInt8} (h : (((x.toNat : Nat) : Int) != ((y.toNat : Nat) : Int)) = false) : x = y := by
 have : ((x.toNat : Nat) : Int) = ((y.toNat : Nat) : Int) := by simpa using h
 exact W8.1 (by omega)
def f2f {d : Dig} {i : Nat} (h : i < 32) : d.l[i]? = some (d.l.getD (i : Int).toNat 0) := by
 rw [G6, B3, B2 (by rw [d.h]; exact h)]; rfl
def f2g {d e : Dig} {i : Nat} (h : i < 32) (ht : d.l.take i = e.l.take i) (hx : d.l.getD (i : Int).toNat 0 = e.l.getD (i : Int).toNat 0) : d.l.take (i + 1) = e.l.take (i + 1) := by
 rw [S8, S8, ht, f2f h, f2f h, hx]
def g7i : d1m.ok Tp 176 := Con.proveH (c := d1m) EF ZL (H := lsH) (call := fun a => a4n EF ZL (fun _ => none) noC noO (lsH a) 2) (fun a => a1i a1j.nil K0 2) fun (a : HL D d1m.ts) (_ : d1m.holds a) =>
 And.intro (⟨(0 : Nat), rfl, rfl, rfl, ⟨C0 _, rfl⟩⟩ : Ent (g0i a.1 a.2.1) [SV.i .i64 0] [] []) (
 fun (i : Nat) (hI : i <= 32 /\ a.1.l.take i = a.2.1.l.take i) =>
 bq (decide ((i : Int) < 32)) (fun h2 =>
 have hi : i < 32 := by have := A6 h2; omega
 bN (iX (i : Int) ((32 : Nat) : Int)) (by simp; omega) (
 bN (iX (i : Int) ((32 : Nat) : Int)) (by simp; omega) (
 bq ((((a.1.l.getD (i : Int).toNat (0 : UInt8)).toNat : Nat) : Int) != (((a.2.1.l.getD (i : Int).toNat (0 : UInt8)).toNat : Nat) : Int)) (fun h3 =>
 bN (iX (i : Int) ((32 : Nat) : Int)) (by simp; omega) (
 bN (iX (i : Int) ((32 : Nat) : Int)) (by simp; omega) (
 (by
  have hne : (a.1.l.getD (i : Int).toNat (0 : UInt8)) ≠ (a.2.1.l.getD (i : Int).toNat (0 : UInt8)) := fun e => by rw [e] at h3; simp at h3
  have := d1l hI.2 (f2f hi) (f2f hi) hne; show some (decide ((((a.1.l.getD (i : Int).toNat (0 : UInt8)).toNat : Nat) : Int) < (((a.2.1.l.getD (i : Int).toNat (0 : UInt8)).toNat : Nat) : Int)), ()) = some (a6y a.1.l a.2.1.l, ()); rw [this]
  congr 2
  exact V4.2 (by omega) : some (decide ((((a.1.l.getD (i : Int).toNat (0 : UInt8)).toNat : Nat) : Int) < (((a.2.1.l.getD (i : Int).toNat (0 : UInt8)).toNat : Nat) : Int)), ()) = some (d1m.ret a))))) (fun h3 =>
 have he := u8F h3
 (⟨i + 1, by
   show [SV.i .i64 (wrap .i64 ((i : Int) + 1))] = [iv ((i + 1 : Nat) : Int)]; rw [wr1 (by omega)], rfl, rfl, ⟨hi, f2g hi hI.2 he⟩, by show 32 - (i + 1) < 32 - i; omega⟩ : Rnd (g0i a.1 a.2.1) i [SV.i .i64 (wrap .i64 ((i : Int) + 1))] [] []))))) (fun h2 =>
 (by
  have hi : i = 32 := by have := A9 h2; omega
  have : a.1.l = a.2.1.l := by
   have h := hI.2; rw [hi] at h
   rwa [F9 (by rw [a.1.h]; omega), F9 (by rw [a.2.1.h]; omega)] at h
  show some (false, ()) = some (a6y a.1.l a.2.1.l, ()); rw [this, c2c] : some (false, ()) = some (d1m.ret a))))
def sLt (y x : j3) : Bool := bif decide (y.seq < x.seq) then true else (bif y.seq == x.seq then (bif decide (y.view < x.view) then true else (bif y.view == x.view then a6y y.dig.l x.dig.l else false)) else false)
abbrev stD : j3 := Ty.dflt D (.st 2)
abbrev stA (l : List j3) (i : Nat) : j3 := l.getD i stD
def a5f (l : List j3) : Nat -> Nat
 | 0 => 1
 | i + 1 => bif decide ((stA l i).seq < (stA l (i + 1)).seq) then 1 else a5f l i + 1
structure okR (l : List j3) (low view : Int) (many : Int) (i : Nat) : Prop where
  a : low < (stA l i).seq
  b : (stA l i).seq <= low + 8
  c : 0 <= (stA l i).view
  d : (stA l i).view < view
  e : 0 < i -> sLt (stA l (i - 1)) (stA l i) = true
  f : (a5f l i : Int) <= many
  g : ∀ k, i + 1 - a5f l i <= k -> k < i -> (stA l k).dig ≠ (stA l i).dig
open Classical in
def a2g (l : List j3) (low view many : Int) : Bool := decide ((l.length : Int) <= 8 * many /\ ∀ i, i < l.length -> okR l low view many i)
def b9m (l : List j3) : ∀ i, 1 <= a5f l i /\ a5f l i <= i + 1
 | 0 => ⟨B9 _, B9 _⟩
 | i + 1 => by
  have := b9m l i; unfold a5f; cases decide ((stA l i).seq < (stA l (i + 1)).seq) with
  | true => simp only [B5]; omega
  | false => simp only [B8]; omega
def b3t : Con D := { ts := [.sl (.st 2), .st 3, .int], rt := [.bool], pre := some (fun a => 0 <= a.2.1.low /\ a.2.1.low <= 9007199254740983 /\ 1 <= a.2.2.1 /\ a.2.2.1 <= 100), ret := fun a => (a2g a.1 a.2.1.low a.2.1.view a.2.2.1, ()) }
def f2h (l : List j3) (low view many : Int) : LH D := ⟨Nat × Nat, [7, 8], fun i => [iv (i.1 : Int), iv (i.2 : Int)], fun i => i.2 <= l.length /\ (0 < i.2 -> i.1 = a5f l (i.2 - 1)) /\ i.1 <= i.2 /\ ∀ k, k < i.2 -> okR l low view many k, fun i => l.length - i.2, [], fun _ => [], [], fun _ => []⟩
def e6y (l : List j3) (i : Nat) : LH D := ⟨Nat, [7], fun n => [iv (n : Int)], fun n => n + 1 = a5f l i /\ (0 < i -> sLt (stA l (i - 1)) (stA l i) = true), fun _ => 0, [], fun _ => [], [], fun _ => []⟩
def e6z (l : List j3) (i n : Nat) : LH D := ⟨Nat, [11], fun k => [iv (k : Int)], fun k => i + 1 - n <= k /\ k <= i /\ ∀ j, i + 1 - n <= j -> j < k -> (stA l j).dig ≠ (stA l i).dig, fun k => i - k, [], fun _ => [], [], fun _ => []⟩
def srH (a : HL D b3t.ts) : Nat -> Nat -> Option (Hint D) := fun f r => match f, r with
 | 134, 5 => some (.inv (f2h a.1 a.2.1.low a.2.1.view a.2.2.1))
 | 134, 11 => some (.dep fun s => .joi (e6y a.1 (slI s 8).toNat))
 | 134, 19 => some (.dep fun s => .inv (e6z a.1 (slI s 8).toNat (slI s 7).toNat))
 | _, _ => none
abbrev Γls : Nat -> Option (Con D) := j6 noC 176 d1m
def Kls : o8 EF Tp Γls noO := K0.c g7i
section
variable {l : List j3} {low view many : Int} {i : Nat}
open Classical in
def c2d (hi : i < l.length) (h : ¬ okR l low view many i) : a2g l low view many = false := by
 unfold a2g; exact E5 fun hh => h (hh.2 i hi)
open Classical in
def f2i (h : 8 * many < (l.length : Int)) : a2g l low view many = false := by
 unfold a2g; exact E5 fun hh => by have := hh.1; omega
open Classical in
def g0j (h1 : (l.length : Int) <= 8 * many) (h : ∀ i, i < l.length -> okR l low view many i) : a2g l low view many = true := by
 unfold a2g; exact F6 ⟨h1, h⟩
def c7q (hi : 0 < i) (h : (stA l (i - 1)).seq < (stA l i).seq) : a5f l i = 1 := by
 obtain ⟨j, rfl⟩ : ∃ j, i = j + 1 := ⟨i - 1, by omega⟩
 unfold a5f
 rw [show decide ((stA l j).seq < (stA l (j + 1)).seq) = true from F6 h]; rfl
def d4i (hi : 0 < i) (h : ¬ (stA l (i - 1)).seq < (stA l i).seq) : a5f l i = a5f l (i - 1) + 1 := by
 obtain ⟨j, rfl⟩ : ∃ j, i = j + 1 := ⟨i - 1, by omega⟩
 show a5f l (j + 1) = a5f l j + 1
 conv => lhs; unfold a5f
 rw [show decide ((stA l j).seq < (stA l (j + 1)).seq) = false from E5 h]; rfl
def h1t {x : j3} (h : (bif bif bif decide (x.seq <= low) then true else decide (low + 8 < x.seq) then true else decide (x.view < 0) then true else decide (view <= x.view)) = true) : ¬ (low < x.seq /\ x.seq <= low + 8 /\ 0 <= x.view /\ x.view < view) := by simp at h; omega
def in4 {x : j3} (h : (bif bif bif decide (x.seq <= low) then true else decide (low + 8 < x.seq) then true else decide (x.view < 0) then true else decide (view <= x.view)) = false) : low < x.seq /\ x.seq <= low + 8 /\ 0 <= x.view /\ x.view < view := by simp at h; omega
def h1u {x y : j3} (h : (bif decide (x.seq < y.seq) then true else decide (x.view < y.view)) = true) : x.seq < y.seq ∨ x.view < y.view := by simp at h; omega
def in2 {x y : j3} (h : (bif decide (x.seq < y.seq) then true else decide (x.view < y.view)) = false) : y.seq <= x.seq /\ y.view <= x.view := by simp at h; omega
def f2j {y x : j3} (h : y.seq < x.seq) : sLt y x = true := by unfold sLt; rw [show decide (y.seq < x.seq) = true from F6 h]; rfl
def a7r {y x : j3} : sLt y x = true ↔ y.seq < x.seq ∨ y.seq = x.seq /\ (y.view < x.view ∨ y.view = x.view /\ a6y y.dig.l x.dig.l = true) := by
 unfold sLt
 by_cases h1 : y.seq < x.seq
 ·simp [h1]
 ·by_cases h2 : y.seq = x.seq
  ·by_cases h3 : y.view < x.view
   ·simp [h1, h2, h3]
   ·by_cases h4 : y.view = x.view
    ·simp [h2, h4]
    ·simp [h2, h3, h4]
  ·simp [h1, h2]
end
def g7j : b3t.ok Tp 134 := Con.proveH (c := b3t) EF ZL (H := srH) (call := fun a => a4n EF ZL (fun _ => none) Γls noO (srH a) 2) (fun a => a1i a1j.nil Kls 2) fun (a : HL D b3t.ts) (hp : b3t.holds a) =>
 have hp : 0 <= a.2.1.low /\ a.2.1.low <= 9007199254740983 /\ @LE.le Int _ 1 a.2.2.1 /\ @LE.le Int _ a.2.2.1 100 := hp
 brL fun hl : a.1.length <= i5 =>
 bq (decide (wrap .i64 ((8 : Int) * a.2.2.1) < ((a.1.length : Nat) : Int))) (fun h2 => (by
  have h := A6 h2; rw [IntWalk.i64_in _ (by omega)] at h; exact congrArg (fun q : Bool => some (q, ())) (f2i h).symm : some (false, ()) = some (b3t.ret a))) (fun h2 =>
 And.intro (⟨((0 : Nat), (0 : Nat)), rfl, rfl, rfl, ⟨C0 _, fun h => absurd h (Nat.lt_irrefl 0), B9 _, fun k hk => absurd hk (Q7 _)⟩⟩ : Ent (f2h a.1 a.2.1.low a.2.1.view a.2.2.1) [SV.i .i64 0, SV.i .i64 0] [] []) (
 fun (i : Nat × Nat) (hI : i.2 <= a.1.length /\ (0 < i.2 -> i.1 = a5f a.1 (i.2 - 1)) /\ i.1 <= i.2 /\ ∀ k, k < i.2 -> okR a.1 a.2.1.low a.2.1.view a.2.2.1 k) =>
 brL fun _ : a.1.length <= i5 =>
 bq (decide ((i.2 : Int) < (a.1.length : Nat))) (fun h5 =>
 have hi : i.2 < a.1.length := by have := A6 h5; omega
 have eL : wrap .i64 (a.2.1.low + 8) = a.2.1.low + 8 := by rw [IntWalk.i64_in _ (by omega)]
 bN (iX (i.2 : Int) ((a.1.length : Nat) : Int)) (by simp; omega) (
 bq (bif bif bif decide ((stA a.1 i.2).seq <= a.2.1.low) then true else decide (wrap .i64 (a.2.1.low + 8) < (stA a.1 i.2).seq) then true else decide ((stA a.1 i.2).view < 0) then true else decide (a.2.1.view <= (stA a.1 i.2).view)) (fun h6 => (congrArg (fun q : Bool => some (q, ())) (c2d hi fun r => h1t (by rw [eL] at h6; exact h6) ⟨r.a, r.b, r.c, r.d⟩).symm : some (false, ()) = some (b3t.ret a))) (fun h6 =>
 have R : a.2.1.low < (stA a.1 i.2).seq /\ (stA a.1 i.2).seq <= a.2.1.low + 8 /\ 0 <= (stA a.1 i.2).view /\ (stA a.1 i.2).view < a.2.1.view := in4 (by rw [eL] at h6; exact h6)
 bq ((i.2 : Int) == 0) (fun h7 =>
 have h0 : i.2 = 0 := by have : (i.2 : Int) = 0 := (by simpa using h7); omega
 And.intro (⟨(0 : Nat), rfl, rfl, rfl, ⟨by show 0 + 1 = a5f a.1 i.2; rw [h0]; rfl, fun h => by omega⟩⟩ : Ent (e6y a.1 i.2) [SV.i .i64 0] [] []) (
 fun (n : Nat) (hn : n + 1 = a5f a.1 i.2 /\ (0 < i.2 -> sLt (stA a.1 (i.2 - 1)) (stA a.1 i.2) = true)) =>
 have hr := b9m a.1 i.2
 have eN : (wrap .i64 ((n : Int) + 1)) = ((n + 1 : Nat) : Int) := by unfold i5 at hl; rw [IntWalk.i64_in _ (by omega)]; omega
 have eT : (wrap .i64 ((n : Int) + 1)).toNat = n + 1 := by rw [eN]; omega
 bq (decide (@LT.lt Int _ a.2.2.1 (wrap .i64 ((n : Int) + 1)))) (fun h9 => (congrArg (fun q : Bool => some (q, ())) (c2d hi fun r => by have := r.f; have := A6 h9; rw [eN] at this; omega).symm : some (false, ()) = some (b3t.ret a))) (fun h9 =>
 And.intro (⟨i.2 - n, by
   show [SV.i .i64 (wrap .i64 (wrap .i64 ((i.2 : Int) - (wrap .i64 ((n : Int) + 1))) + 1))] = [iv ((i.2 - n : Nat) : Int)]; unfold i5 at hl; rw [eN, IntWalk.i64_in ((i.2 : Int) - _) (by omega), IntWalk.i64_in _ (by omega)]; show [SV.i .i64 _] = [SV.i .i64 _]
   congr 2; omega, rfl, rfl, ⟨by rw [eT]; omega, by omega, fun j h1 h2 => by rw [eT] at h1; omega⟩⟩ : Ent (e6z a.1 i.2 (wrap .i64 ((n : Int) + 1)).toNat) [SV.i .i64 (wrap .i64 (wrap .i64 ((i.2 : Int) - (wrap .i64 ((n : Int) + 1))) + 1))] [] []) (
 fun (k : Nat) (hk : i.2 + 1 - (wrap .i64 ((n : Int) + 1)).toNat <= k /\ k <= i.2 /\ ∀ j, i.2 + 1 - (wrap .i64 ((n : Int) + 1)).toNat <= j -> j < k -> (stA a.1 j).dig ≠ (stA a.1 i.2).dig) =>
 bq (decide ((k : Int) < (i.2 : Int))) (fun h11 =>
 have hki : k < i.2 := by have := A6 h11; omega
 bN (iX (k : Int) ((a.1.length : Nat) : Int)) (by simp; omega) (
 bq (decide ((stA a.1 k).dig = (stA a.1 i.2).dig)) (fun h12 => (congrArg (fun q : Bool => some (q, ())) (c2d hi fun r => r.g k (by have := hk.1; rw [eT] at this; omega) hki (A6 h12)).symm : some (false, ()) = some (b3t.ret a))) (fun h12 =>
 (⟨k + 1, by
   show [SV.i .i64 (wrap .i64 ((k : Int) + 1))] = [iv ((k + 1 : Nat) : Int)]; rw [o7 (by omega : k < a.1.length) hl], rfl, rfl, ⟨P4 hk.1, hki, fun j h1 h2 => by
    rcases F1.1 h2 with h2 | rfl
    ·exact hk.2.2 j h1 h2
    ·exact A9 h12⟩, by show i.2 - (k + 1) < i.2 - k; omega⟩ : Rnd (e6z a.1 i.2 (wrap .i64 ((n : Int) + 1)).toNat) k [SV.i .i64 (wrap .i64 ((k : Int) + 1))] [] [])))) (fun h11 =>
 have hki : k = i.2 := by have := A9 h11; omega
 (⟨(n + 1, i.2 + 1), by
   show [SV.i .i64 (wrap .i64 ((n : Int) + 1)), SV.i .i64 (wrap .i64 ((i.2 : Int) + 1))] = [iv ((n + 1 : Nat) : Int), iv ((i.2 + 1 : Nat) : Int)]; rw [eN, o7 hi hl], rfl, rfl, ⟨hi, fun _ => hn.1, by show n + 1 <= i.2 + 1; omega, fun j hj => by
    rcases F1.1 hj with hj | rfl
    ·exact hI.2.2.2 j hj
    ·exact ⟨R.1, R.2.1, R.2.2.1, R.2.2.2, hn.2, by have := A9 h9; rw [eN] at this; omega, fun j h1 h2 => hk.2.2 j (by rw [eT]; omega) (by omega)⟩⟩, by show a.1.length - (i.2 + 1) < a.1.length - i.2; omega⟩ : Rnd (f2h a.1 a.2.1.low a.2.1.view a.2.2.1) i [SV.i .i64 (wrap .i64 ((n : Int) + 1)), SV.i .i64 (wrap .i64 ((i.2 : Int) + 1))] [] [])))))) (fun h7 =>
 have h0 : 0 < i.2 := by have : ¬ (i.2 : Int) = 0 := (by simpa using h7); omega
 have eP : (wrap .i64 ((i.2 : Int) - 1)) = ((i.2 - 1 : Nat) : Int) := by unfold i5 at hl; rw [IntWalk.i64_in _ (by omega)]; omega
 have eY : (stA a.1 (wrap .i64 ((i.2 : Int) - 1)).toNat) = stA a.1 (i.2 - 1) := by rw [eP, G6]
 bN (iX (wrap .i64 ((i.2 : Int) - 1)) ((a.1.length : Nat) : Int)) (by rw [eP]; simp; omega) (
 And.intro (bq (decide ((stA a.1 (wrap .i64 ((i.2 : Int) - 1)).toNat).seq < (stA a.1 i.2).seq)) (fun h8 =>
  have h8 : (stA a.1 (i.2 - 1)).seq < (stA a.1 i.2).seq := by rw [<- eY]; exact A6 h8
  (⟨(0 : Nat), rfl, rfl, rfl, ⟨by show 0 + 1 = a5f a.1 i.2; rw [c7q h0 h8], fun _ => f2j h8⟩⟩ : Ent (e6y a.1 i.2) [SV.i .i64 0] [] [])) (fun h8 =>
  have h8 : ¬ (stA a.1 (i.2 - 1)).seq < (stA a.1 i.2).seq := by rw [<- eY]; exact A9 h8
  have hr : i.1 + 1 = a5f a.1 i.2 := by rw [d4i h0 h8, hI.2.1 h0]
  bN (iX (wrap .i64 ((i.2 : Int) - 1)) ((a.1.length : Nat) : Int)) (by rw [eP]; simp; omega) (
  bq (bif decide ((stA a.1 i.2).seq < (stA a.1 (wrap .i64 ((i.2 : Int) - 1)).toNat).seq) then true else decide ((stA a.1 i.2).view < (stA a.1 (wrap .i64 ((i.2 : Int) - 1)).toNat).view)) (fun h9 => (congrArg (fun q : Bool => some (q, ())) (c2d hi fun r => by rw [eY] at h9; have h1 := a7r.1 (r.e h0); have h2 := h1u h9; omega).symm : some (false, ()) = some (b3t.ret a))) (fun h9 =>
  have h9 : (stA a.1 (i.2 - 1)).seq = (stA a.1 i.2).seq /\ (stA a.1 (i.2 - 1)).view <= (stA a.1 i.2).view := by rw [eY] at h9; have h1 := in2 h9; omega
  bq ((stA a.1 i.2).view == (stA a.1 (wrap .i64 ((i.2 : Int) - 1)).toNat).view) (fun h10 =>
  have h10 : (stA a.1 i.2).view = (stA a.1 (i.2 - 1)).view := by rw [<- eY]; simpa using h10
  bq (!a6y (stA a.1 (wrap .i64 ((i.2 : Int) - 1)).toNat).dig.l (stA a.1 i.2).dig.l) (fun h11 => (congrArg (fun q : Bool => some (q, ())) (c2d hi fun r => by rw [eY] at h11; have := a7r.1 (r.e h0); have h12 : a6y (stA a.1 (i.2 - 1)).dig.l (stA a.1 i.2).dig.l = false := (by simpa using h11); rcases this with h | ⟨_, h | ⟨_, h⟩⟩ <;> first | omega | (rw [h12] at h; cases h)).symm : some (false, ()) = some (b3t.ret a))) (fun h11 =>
  (⟨i.1, rfl, rfl, rfl, ⟨hr, fun _ => a7r.2 (.inr ⟨h9.1, .inr ⟨h10.symm, by rw [<- eY]; simpa using h11⟩⟩)⟩⟩ : Ent (e6y a.1 i.2) [SV.i .i64 (i.1 : Int)] [] []))) (fun h10 =>
  have h10 : ¬ (stA a.1 i.2).view = (stA a.1 (i.2 - 1)).view := by rw [<- eY]; simpa using h10
  (⟨i.1, rfl, rfl, rfl, ⟨hr, fun _ => a7r.2 (.inr ⟨h9.1, .inl (by omega)⟩)⟩⟩ : Ent (e6y a.1 i.2) [SV.i .i64 (i.1 : Int)] [] [])))))) (
 fun (n : Nat) (hn : n + 1 = a5f a.1 i.2 /\ (0 < i.2 -> sLt (stA a.1 (i.2 - 1)) (stA a.1 i.2) = true)) =>
 have hr := b9m a.1 i.2
 have eN : (wrap .i64 ((n : Int) + 1)) = ((n + 1 : Nat) : Int) := by unfold i5 at hl; rw [IntWalk.i64_in _ (by omega)]; omega
 have eT : (wrap .i64 ((n : Int) + 1)).toNat = n + 1 := by rw [eN]; omega
 bq (decide (@LT.lt Int _ a.2.2.1 (wrap .i64 ((n : Int) + 1)))) (fun h9 => (congrArg (fun q : Bool => some (q, ())) (c2d hi fun r => by have := r.f; have := A6 h9; rw [eN] at this; omega).symm : some (false, ()) = some (b3t.ret a))) (fun h9 =>
 And.intro (⟨i.2 - n, by
   show [SV.i .i64 (wrap .i64 (wrap .i64 ((i.2 : Int) - (wrap .i64 ((n : Int) + 1))) + 1))] = [iv ((i.2 - n : Nat) : Int)]; unfold i5 at hl; rw [eN, IntWalk.i64_in ((i.2 : Int) - _) (by omega), IntWalk.i64_in _ (by omega)]; show [SV.i .i64 _] = [SV.i .i64 _]
   congr 2; omega, rfl, rfl, ⟨by rw [eT]; omega, by omega, fun j h1 h2 => by rw [eT] at h1; omega⟩⟩ : Ent (e6z a.1 i.2 (wrap .i64 ((n : Int) + 1)).toNat) [SV.i .i64 (wrap .i64 (wrap .i64 ((i.2 : Int) - (wrap .i64 ((n : Int) + 1))) + 1))] [] []) (
 fun (k : Nat) (hk : i.2 + 1 - (wrap .i64 ((n : Int) + 1)).toNat <= k /\ k <= i.2 /\ ∀ j, i.2 + 1 - (wrap .i64 ((n : Int) + 1)).toNat <= j -> j < k -> (stA a.1 j).dig ≠ (stA a.1 i.2).dig) =>
 bq (decide ((k : Int) < (i.2 : Int))) (fun h11 =>
 have hki : k < i.2 := by have := A6 h11; omega
 bN (iX (k : Int) ((a.1.length : Nat) : Int)) (by simp; omega) (
 bq (decide ((stA a.1 k).dig = (stA a.1 i.2).dig)) (fun h12 => (congrArg (fun q : Bool => some (q, ())) (c2d hi fun r => r.g k (by have := hk.1; rw [eT] at this; omega) hki (A6 h12)).symm : some (false, ()) = some (b3t.ret a))) (fun h12 =>
 (⟨k + 1, by
   show [SV.i .i64 (wrap .i64 ((k : Int) + 1))] = [iv ((k + 1 : Nat) : Int)]; rw [o7 (by omega : k < a.1.length) hl], rfl, rfl, ⟨P4 hk.1, hki, fun j h1 h2 => by
    rcases F1.1 h2 with h2 | rfl
    ·exact hk.2.2 j h1 h2
    ·exact A9 h12⟩, by show i.2 - (k + 1) < i.2 - k; omega⟩ : Rnd (e6z a.1 i.2 (wrap .i64 ((n : Int) + 1)).toNat) k [SV.i .i64 (wrap .i64 ((k : Int) + 1))] [] [])))) (fun h11 =>
 have hki : k = i.2 := by have := A9 h11; omega
 (⟨(n + 1, i.2 + 1), by
   show [SV.i .i64 (wrap .i64 ((n : Int) + 1)), SV.i .i64 (wrap .i64 ((i.2 : Int) + 1))] = [iv ((n + 1 : Nat) : Int), iv ((i.2 + 1 : Nat) : Int)]; rw [eN, o7 hi hl], rfl, rfl, ⟨hi, fun _ => hn.1, by show n + 1 <= i.2 + 1; omega, fun j hj => by
    rcases F1.1 hj with hj | rfl
    ·exact hI.2.2.2 j hj
    ·exact ⟨R.1, R.2.1, R.2.2.1, R.2.2.2, hn.2, by have := A9 h9; rw [eN] at this; omega, fun j h1 h2 => hk.2.2 j (by rw [eT]; omega) (by omega)⟩⟩, by show a.1.length - (i.2 + 1) < a.1.length - i.2; omega⟩ : Rnd (f2h a.1 a.2.1.low a.2.1.view a.2.2.1) i [SV.i .i64 (wrap .i64 ((n : Int) + 1)), SV.i .i64 (wrap .i64 ((i.2 : Int) + 1))] [] [])))))))))) (fun h5 =>
 (by
  have hi : i.2 = a.1.length := by have := A9 h5; omega
  have h := A9 h2; rw [IntWalk.i64_in _ (by omega)] at h; exact congrArg (fun q : Bool => some (q, ())) (g0j (by omega) fun k hk => hI.2.2.2 k (by omega)).symm : some (true, ()) = some (b3t.ret a)))))
abbrev mkA (l : List Mark) (i : Nat) : Mark := l.getD i (Ty.dflt D (.st 1))
abbrev okM (l : List Mark) (i : Nat) : Prop := 0 < i -> (mkA l (i - 1)).seq < (mkA l i).seq /\ (mkA l i).seq <= 9007199254740991
structure hdM (c : i4) : Prop where
  n : 1 <= c.node /\ c.node <= 28
  v : 1 <= c.view /\ c.view <= 1048576
  w : 0 <= c.low /\ c.low <= 9007199254740983
  l : 1 <= c.mz.length /\ c.mz.length <= 5
  m : (mkA c.mz 0).seq = c.low
open Classical in
def n8 (c : i4) : Bool := decide (hdM c /\ ∀ i, i < c.mz.length -> okM c.mz i) && (a2g c.p c.low c.view 1 && a2g c.q c.low c.view 4)
def a7c : Con D := { ts := [.st 3], rt := [.bool], ret := fun a => (n8 a.1, ()) }
def g0k (l : List Mark) : LH D := ⟨Nat, [3], fun i => [iv (i : Int)], fun i => i <= l.length /\ 1 <= i /\ ∀ k, k < i -> okM l k, fun i => l.length - i, [], fun _ => [], [], fun _ => []⟩
def rmH (a : HL D a7c.ts) : Nat -> Nat -> Option (Hint D) := fun f r => match f, r with
 | 88, 4 => some (.inv (g0k a.1.mz))
 | _, _ => none
abbrev Γrm : Nat -> Option (Con D) := j6 noC 134 b3t
def Krm : o8 EF Tp Γrm noO := K0.c g7j
section
variable {c : i4}
open Classical in
def a7s (h : ¬ (hdM c /\ ∀ i, i < c.mz.length -> okM c.mz i)) : n8 c = false := by
 unfold n8; rw [E5 h]; rfl
open Classical in
def d7i (h : hdM c /\ ∀ i, i < c.mz.length -> okM c.mz i) : n8 c = (a2g c.p c.low c.view 1 && a2g c.q c.low c.view 4) := by
 unfold n8; rw [F6 h]; rfl
def ltC {i n : Nat} (h : i < n) : (decide (0 <= (i : Int)) && decide ((i : Int) < (n : Nat))) = true := by simp; omega
def rgT {lo x hi : Int} (h : (!bif decide (lo <= x) then decide (x <= hi) else false) = true) : ¬ (lo <= x /\ x <= hi) := by simp at h; omega
def rgF {lo x hi : Int} (h : (!bif decide (lo <= x) then decide (x <= hi) else false) = false) : lo <= x /\ x <= hi := by simp at h; omega
end
def d7j : a7c.ok Tp 88 := Con.proveH (c := a7c) EF ZL (H := rmH) (call := fun a => a4n EF ZL (fun _ => none) Γrm noO (rmH a) 2) (fun a => a1i a1j.nil Krm 2) fun (a : HL D a7c.ts) (_ : a7c.holds a) =>
 bq (!bif decide (1 <= a.1.node) then decide (a.1.node <= 28) else false) (fun h1 => (congrArg (fun q : Bool => some (q, ())) (a7s fun r => rgT h1 r.1.n).symm : some (false, ()) = some (a7c.ret a))) (fun h1 =>
 have H1 := rgF h1
 bq (!bif decide (1 <= a.1.view) then decide (a.1.view <= 1048576) else false) (fun h2 => (congrArg (fun q : Bool => some (q, ())) (a7s fun r => rgT h2 r.1.v).symm : some (false, ()) = some (a7c.ret a))) (fun h2 =>
 have H2 := rgF h2
 bq (!bif decide (0 <= a.1.low) then decide (a.1.low <= 9007199254740983) else false) (fun h3 => (congrArg (fun q : Bool => some (q, ())) (a7s fun r => rgT h3 r.1.w).symm : some (false, ()) = some (a7c.ret a))) (fun h3 =>
 have H3 := rgF h3
 brL fun hl : a.1.mz.length <= i5 =>
 bq (!bif decide (1 <= ((a.1.mz.length : Nat) : Int)) then decide (((a.1.mz.length : Nat) : Int) <= 5) else false) (fun h5 => (congrArg (fun q : Bool => some (q, ())) (a7s fun r => rgT h5 (by have := r.1.l; omega)).symm : some (false, ()) = some (a7c.ret a))) (fun h5 =>
 have H5 := rgF h5
 bN (iX (0 : Int) ((a.1.mz.length : Nat) : Int)) (by simp; omega) (
 bq ((mkA a.1.mz 0).seq != a.1.low) (fun h6 => (congrArg (fun q : Bool => some (q, ())) (a7s fun r => by rw [r.1.m] at h6; simp at h6).symm : some (false, ()) = some (a7c.ret a))) (fun h6 =>
 have HD : hdM a.1 := ⟨H1, H2, H3, by omega, Q3.1 h6⟩
 And.intro (⟨(1 : Nat), rfl, rfl, rfl, ⟨by omega, B9 _, fun k hk h => by omega⟩⟩ : Ent (g0k a.1.mz) [SV.i .i64 1] [] []) (
 fun (i : Nat) (hI : i <= a.1.mz.length /\ 1 <= i /\ ∀ k, k < i -> okM a.1.mz k) =>
 brL fun _ : a.1.mz.length <= i5 =>
 bq (decide ((i : Int) < (a.1.mz.length : Nat))) (fun h9 =>
 have hi : i < a.1.mz.length := by have := A6 h9; omega
 have eP : (wrap .i64 ((i : Int) - 1)) = ((i - 1 : Nat) : Int) := by rw [IntWalk.i64_in _ (by omega)]; omega
 have eY : (mkA a.1.mz (wrap .i64 ((i : Int) - 1)).toNat) = mkA a.1.mz (i - 1) := by rw [eP, G6]
 bN (iX (i : Int) ((a.1.mz.length : Nat) : Int)) (ltC hi) (
 bN (iX (wrap .i64 ((i : Int) - 1)) ((a.1.mz.length : Nat) : Int)) (by rw [eP]; exact ltC (by omega)) (
 bq (decide ((mkA a.1.mz i).seq <= (mkA a.1.mz (wrap .i64 ((i : Int) - 1)).toNat).seq)) (fun h10 => (congrArg (fun q : Bool => some (q, ())) (a7s fun r => by have h := A6 h10; rw [eY] at h; have := (r.2 i hi (by omega)).1; omega).symm : some (false, ()) = some (a7c.ret a))) (fun h10 =>
 have h10 : (mkA a.1.mz (i - 1)).seq < (mkA a.1.mz i).seq := by have h := A9 h10; rw [eY] at h; omega
 bN (iX (i : Int) ((a.1.mz.length : Nat) : Int)) (ltC hi) (
 bq (decide (9007199254740991 < (mkA a.1.mz i).seq)) (fun h11 => (congrArg (fun q : Bool => some (q, ())) (a7s fun r => by have h := A6 h11; have := (r.2 i hi (by omega)).2; omega).symm : some (false, ()) = some (a7c.ret a))) (fun h11 =>
 (⟨i + 1, by
   show [SV.i .i64 (wrap .i64 ((i : Int) + 1))] = [iv ((i + 1 : Nat) : Int)]; rw [wr1 (by omega)], rfl, rfl, ⟨hi, by omega, fun k hk => by
    rcases F1.1 hk with hk | rfl
    ·exact hI.2.2 k hk
    ·exact fun _ => ⟨h10, by have := A9 h11; omega⟩⟩, by show a.1.mz.length - (i + 1) < a.1.mz.length - i; omega⟩ : Rnd (g0k a.1.mz) i [SV.i .i64 (wrap .i64 ((i : Int) + 1))] [] []))))))) (fun h9 =>
 have hA : hdM a.1 /\ ∀ k, k < a.1.mz.length -> okM a.1.mz k := ⟨HD, fun k hk => hI.2.2 k (by have := A9 h9; omega)⟩
 pQ ((0 : Int) <= a.1.low /\ a.1.low <= 9007199254740983 /\ (1 : Int) <= 1 /\ (1 : Int) <= 100) ⟨H3.1, H3.2, by decide, by decide⟩ (
 bq (a2g a.1.p a.1.low a.1.view 1) (fun h10 =>
 pQ ((0 : Int) <= a.1.low /\ a.1.low <= 9007199254740983 /\ (1 : Int) <= 4 /\ (4 : Int) <= 100) ⟨H3.1, H3.2, by decide, by decide⟩ (
 (by
  show some (a2g a.1.q a.1.low a.1.view 4, ()) = some (n8 a.1, ()); rw [d7i hA, h10]; rfl : some (a2g a.1.q a.1.low a.1.view 4, ()) = some (a7c.ret a)))) (fun h10 =>
 (by
  show some (false, ()) = some (n8 a.1, ()); rw [d7i hA, h10]; rfl : some (false, ()) = some (a7c.ret a))))))))))))
def d7k (l : List UInt8) : ByteArray.size ⟨l.toArray⟩ = l.length := rfl
def d7l (x : UInt8) (l : List UInt8) : (ByteArray.mk (x :: l).toArray)[0]! = x := rfl
def d7m (x : UInt8) (l : List UInt8) (i : Nat) : (ByteArray.mk (x :: l).toArray)[i + 1]! = (ByteArray.mk l.toArray)[i]! := by
 simp only [getElem!_def, getElem?_def, d7k]
 by_cases h : i < l.length
 ·simp [h]; rfl
 ·simp [h]
def e7a : b2l [] [] = 0 := rfl
def e0i (x y : UInt8) (a b : List UInt8) : b2l (x :: a) (y :: b) = if x != y then (if x < y then -1 else 1) else b2l a b := by
 unfold b2l Extern.BytealgCompare.cmp
 simp only [d7k, I3, Nat.succ_min_succ, List.range_succ_eq_map, X1, d7l, List.find?_map, Z3, d7m]
 by_cases h : x = y
 ·subst h; simp only [bne_self_eq_false]; cases List.find? (fun i => (ByteArray.mk a.toArray)[i]! != (ByteArray.mk b.toArray)[i]!) (List.range (min a.length b.length)) with
  | none => simp
  | some i => simp [d7m]
 ·have : (x != y) = true := by simpa using h
  simp [this, d7l]; rfl
def d1n : ∀ (a b : List UInt8), a.length = b.length -> (b2l a b < 0 ↔ a6y a b = true)
 | [], [], _ => by rw [e7a]; unfold a6y; simp
 | [], _ :: _, h => by simp at h
 | _ :: _, [], h => by simp at h
 | x :: a, y :: b, h => by
  rw [e0i]; unfold a6y; by_cases e : x = y
  ·subst e; simp only [bne_self_eq_false, Bool.false_eq_true, Aq, X7]; exact d1n a b (by simpa using h)
  ·have hb : (x != y) = true := by simpa using e
   rw [F8 hb, F7 e]; by_cases l : x < y
   ·rw [F8 l]; have : x.toNat < y.toNat := UInt8.lt_iff_toNat_lt.1 l; simp [this]
   ·rw [F7 l]; have : ¬ x.toNat < y.toNat := fun h => l (UInt8.lt_iff_toNat_lt.2 h)
    simp [this]
def a4p (a b : Int) : Int := bif decide (a < b) then -1 else bif decide (b < a) then 1 else 0
def b7a (y x : j3) : Int := bif a4p y.seq x.seq != 0 then a4p y.seq x.seq else bif a4p y.view x.view != 0 then a4p y.view x.view else b2l y.dig.l x.dig.l
def d7n {a b : Int} : a4p a b < 0 ↔ a < b := by
 unfold a4p
 by_cases h : a < b
 ·simp [h]
 ·by_cases h2 : b < a <;> simp [h, h2]
def b9n {a b : Int} : a4p a b = 0 ↔ a = b := by
 unfold a4p
 by_cases h : a < b
 ·simp [h]; omega
 ·by_cases h2 : b < a
  ·simp [h, h2]; omega
  ·simp [h, h2]; omega
def b9o {y x : j3} : b7a y x < 0 ↔ sLt y x = true := by
 rw [a7r]
 unfold b7a
 by_cases h1 : a4p y.seq x.seq = 0
 ·have e1 := b9n.1 h1; rw [show (a4p y.seq x.seq != 0) = false by simpa using h1, B8]; by_cases h2 : a4p y.view x.view = 0
  ·have e2 := b9n.1 h2; rw [show (a4p y.view x.view != 0) = false by simpa using h2, B8, d1n _ _ (by rw [y.dig.h, x.dig.h])]; constructor
   ·intro h; exact .inr ⟨e1, .inr ⟨e2, h⟩⟩
   ·rintro (h | ⟨_, h | ⟨_, h⟩⟩)
    ·omega
    ·omega
    ·exact h
  ·rw [show (a4p y.view x.view != 0) = true by simpa using h2, B5, d7n]; have e2 : y.view ≠ x.view := fun e => h2 (b9n.2 e)
   constructor
   ·intro h; exact .inr ⟨e1, .inl h⟩
   ·rintro (h | ⟨_, h | ⟨h, _⟩⟩)
    ·omega
    ·exact h
    ·exact absurd h e2
 ·rw [show (a4p y.seq x.seq != 0) = true by simpa using h1, B5, d7n]; have e1 : y.seq ≠ x.seq := fun e => h1 (b9n.2 e)
  constructor
  ·intro h; exact .inl h
  ·rintro (h | ⟨h, _⟩)
   ·exact h
   ·exact absurd h e1
def b1g : Con D := { ts := [.int, .int], rt := [.int], ret := fun a => (a4p a.1 a.2.1, ()) }
def b5j : Con D := { ts := [.st 2, .st 2], rt := [.int], ret := fun a => (b7a a.1 a.2.1, ()) }
def c7r {x : Int} (h : (x != x) = true) : False := by simp at h
def g0l : b1g.ok Tp 221 := Con.proveH (c := b1g) EF ZL (H := fun _ _ _ => none) (call := fun _ => a4n EF ZL (fun _ => none) noC noO (fun _ _ => none) 4) (fun _ => a1i a1j.nil K0 4) fun (a : HL D b1g.ts) (_ : b1g.holds a) =>
 bq (@bne Int _ a.1 a.1) (fun h1 =>
 bq (@bne Int _ a.2.1 a.2.1) (fun h2 => ((c7r h1).elim : some ((0 : Int), ()) = some (b1g.ret a))) (fun h2 =>
 ((c7r h1).elim : some ((-1 : Int), ()) = some (b1g.ret a)))) (fun h1 =>
 bq (@bne Int _ a.2.1 a.2.1) (fun h2 => ((c7r h2).elim : some ((1 : Int), ()) = some (b1g.ret a))) (fun h2 =>
 bq (decide (@LT.lt Int _ a.1 a.2.1)) (fun h3 => (by
  show some ((-1 : Int), ()) = some (a4p a.1 a.2.1, ()); unfold a4p; rw [h3]; rfl : some ((-1 : Int), ()) = some (b1g.ret a))) (fun h3 =>
 bq (decide (@LT.lt Int _ a.2.1 a.1)) (fun h4 => (by
  show some ((1 : Int), ()) = some (a4p a.1 a.2.1, ()); unfold a4p; rw [h3, h4]; rfl : some ((1 : Int), ()) = some (b1g.ret a))) (fun h4 => (by
  show some ((0 : Int), ()) = some (a4p a.1 a.2.1, ()); unfold a4p; rw [h3, h4]; rfl : some ((0 : Int), ()) = some (b1g.ret a))))))
abbrev Γcm : Nat -> Option (Con D) := j6 noC 221 b1g
def Kcm : o8 EF Tp Γcm noO := K0.c g0l
def g0m : b5j.ok Tp 205 := Con.proveH (c := b5j) EF ZL (H := fun _ _ _ => some (.unr 4)) (call := fun _ => a4n EF ZL (fun _ => none) Γcm noO (fun _ _ => some (.unr 4)) 4) (fun _ => a1i a1j.nil Kcm 4) fun (a : HL D b5j.ts) (_ : b5j.holds a) =>
 bq (a4p a.1.seq a.2.1.seq != 0) (fun h1 => (by
  show some (a4p a.1.seq a.2.1.seq, ()) = some (b7a a.1 a.2.1, ()); unfold b7a; rw [h1]; rfl : some (a4p a.1.seq a.2.1.seq, ()) = some (b5j.ret a))) (fun h1 =>
 bq (a4p a.1.view a.2.1.view != 0) (fun h2 => (by
  show some (a4p a.1.view a.2.1.view, ()) = some (b7a a.1 a.2.1, ()); unfold b7a; rw [h1, h2]; rfl : some (a4p a.1.view a.2.1.view, ()) = some (b5j.ret a))) (fun h2 =>
 bq (b2l a.1.dig.l a.2.1.dig.l != 0) (fun h3 => (by
  show some (b2l a.1.dig.l a.2.1.dig.l, ()) = some (b7a a.1 a.2.1, ()); unfold b7a; rw [h1, h2]; rfl : some (b2l a.1.dig.l a.2.1.dig.l, ()) = some (b5j.ret a))) (fun h3 => (by
  have e : b2l a.1.dig.l a.2.1.dig.l = 0 := Q3.1 h3; show some ((0 : Int), ()) = some (b7a a.1 a.2.1, ()); unfold b7a; rw [h1, h2, B8, B8, e] : some ((0 : Int), ()) = some (b5j.ret a)))))
abbrev inA (l : List Int) (i : Nat) : Int := l.getD i (Ty.dflt D .int)
open Classical in
def rsB (l : List Int) : Bool := decide (∀ i, i < l.length -> 0 < i -> inA l (i - 1) < inA l i)
def b8b : Con D := { ts := [.sl .int], rt := [.bool], ret := fun a => (rsB a.1, ()) }
def g0n (l : List Int) : LH D := ⟨Nat, [3], fun i => [iv (i : Int)], fun i => (i <= l.length ∨ i = 1) /\ 1 <= i /\ ∀ k, k < i -> k < l.length -> 0 < k -> inA l (k - 1) < inA l k, fun i => l.length - i, [], fun _ => [], [], fun _ => []⟩
def g7k (a : HL D b8b.ts) : Nat -> Nat -> Option (Hint D) := fun f r => match f, r with
 | 165, 2 => some (.inv (g0n a.1))
 | _, _ => none
abbrev mkS (s : j3) : Mark := ⟨s.seq, s.dig⟩
abbrev cnt (c : List (Int × Int)) (x : Int) : Int := (a0z (E := D) .int .int c x).getD 0
abbrev sen (c : List (Mark × Int)) (x : Mark) : Int := (a0z (E := D) (.st 1) .int c x).getD 0
structure okP (l : List j3) (low view : Int) (many : Int) (i : Nat) : Prop where
  a : low < (stA l i).seq
  b : (stA l i).seq <= low + 8
  c : 0 <= (stA l i).view
  d : (stA l i).view < view
  e : 0 < i -> sLt (stA l (i - 1)) (stA l i) = true
  f : (((l.take (i + 1)).countP fun s => decide (s.seq = (stA l i).seq) : Nat) : Int) <= many
  g : (((l.take (i + 1)).countP fun s => decide (mkS s = mkS (stA l i)) : Nat) : Int) <= 1
open Classical in
def b3b (l : List j3) (low view many : Int) : Bool := decide (∀ i, i < l.length -> okP l low view many i)
def a8a : Con D := { ts := [.sl (.st 2), .st 3, .int], rt := [.bool], pre := some (fun a => 0 <= a.2.1.low /\ a.2.1.low <= 9007199254740983 /\ 1 <= a.2.1.view /\ a.2.1.view <= 1048576), ret := fun a => (b3b a.1 a.2.1.low a.2.1.view a.2.2.1, ()) }
def e0j (l : List j3) (low view many : Int) : LH D := ⟨Nat × List (Int × Int) × List (Mark × Int), [16], fun i => [iv (i.1 : Int)], fun i => i.1 <= l.length /\ (∀ x, cnt i.2.1 x = (((l.take i.1).countP fun s => decide (s.seq = x) : Nat) : Int)) /\ (∀ x, sen i.2.2 x = (((l.take i.1).countP fun s => decide (mkS s = x) : Nat) : Int)) /\ ∀ k, k < i.1 -> okP l low view many k, fun i => l.length - i.1, [], fun _ => [], [1, 2], fun i => [.map .int .int i.2.1, .map (.st 1) .int i.2.2]⟩
def spH (a : HL D a8a.ts) : Nat -> Nat -> Option (Hint D) := fun f r => match f, r with
 | 166, 3 => some (.inv (e0j a.1 a.2.1.low a.2.1.view a.2.2.1))
 | _, _ => none
abbrev Γor : Nat -> Option (Con D) := j6 noC 205 b5j
def Kor : o8 EF Tp Γor noO := K0.c g0m
end
end Go.Proofs.YtpbcabanpppfoaaGreat
namespace Go.Proofs.YtpbcabanpppfoaaGreat
open Go Go.Gx Go.Vz
open Go.IntKind (wrap)
open List (flatMap getD length take replicate)
set_option maxRecDepth 100000
noncomputable section
open Classical in
def g7l {l : List Int} {i : Nat} (hi : i < l.length) (h0 : 0 < i) (h : ¬ inA l (i - 1) < inA l i) : rsB l = false := by
 unfold rsB; exact E5 fun hh => h (hh i hi h0)
open Classical in
def g0o {l : List Int} (h : ∀ i, i < l.length -> 0 < i -> inA l (i - 1) < inA l i) : rsB l = true := by
 unfold rsB; exact F6 h
def g0p : b8b.ok Tp 165 := Con.proveH (c := b8b) EF ZL (H := g7k) (call := fun a => a4n EF ZL (fun _ => none) noC noO (g7k a) 2) (fun a => a1i a1j.nil K0 2) fun (a : HL D b8b.ts) (_ : b8b.holds a) =>
 And.intro (⟨(1 : Nat), rfl, rfl, rfl, ⟨.inr rfl, B9 _, fun k hk _ h => by omega⟩⟩ : Ent (g0n a.1) [SV.i .i64 1] [] []) (
 fun (i : Nat) (hI : (i <= a.1.length ∨ i = 1) /\ 1 <= i /\ ∀ k, k < i -> k < a.1.length -> 0 < k -> inA a.1 (k - 1) < inA a.1 k) =>
 brL fun hl : a.1.length <= i5 =>
 bq (decide ((i : Int) < (a.1.length : Nat))) (fun h3 =>
 have hi : i < a.1.length := by have := A6 h3; omega
 have eP : wrap .i64 ((i : Int) - 1) = ((i - 1 : Nat) : Int) := by unfold i5 at hl; rw [IntWalk.i64_in _ (by omega)]; omega
 have eY : inA a.1 (wrap .i64 ((i : Int) - 1)).toNat = inA a.1 (i - 1) := by rw [eP, G6]
 bN (iX (i : Int) ((a.1.length : Nat) : Int)) (ltC hi) (
 bN (iX (wrap .i64 ((i : Int) - 1)) ((a.1.length : Nat) : Int)) (by rw [eP]; exact ltC (by omega)) (
 bq (decide (@LE.le Int _ (inA a.1 i) (inA a.1 (wrap .i64 ((i : Int) - 1)).toNat))) (fun h4 =>
 (congrArg (fun q : Bool => some (q, ())) (g7l hi hI.2.1 fun h => by
  have h5 := A6 h4; rw [eY] at h5; exact absurd h (U2.2 h5)).symm : some (false, ()) = some (b8b.ret a))) (fun h4 =>
 (⟨i + 1, by
   show [SV.i .i64 (wrap .i64 ((i : Int) + 1))] = [iv ((i + 1 : Nat) : Int)]; rw [o7 hi hl], rfl, rfl, ⟨.inl hi, by omega, fun k hk h1 h2 => by
    rcases F1.1 hk with hk | rfl
    ·exact hI.2.2 k hk h1 h2
    ·have h5 := A9 h4; rw [eY] at h5; exact Int.not_le.1 h5⟩, by show a.1.length - (i + 1) < a.1.length - i; omega⟩ : Rnd (g0n a.1) i [SV.i .i64 (wrap .i64 ((i : Int) + 1))] [] []))))) (fun h3 =>
 (congrArg (fun q : Bool => some (q, ())) (g0o fun k hk h0 => hI.2.2 k (by have := A9 h3; omega) hk h0).symm : some (true, ()) = some (b8b.ret a))))
end
end Go.Proofs.YtpbcabanpppfoaaGreat
