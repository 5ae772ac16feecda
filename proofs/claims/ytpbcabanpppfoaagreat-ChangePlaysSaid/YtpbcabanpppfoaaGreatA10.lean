/- A part of the proof. No condition. -/
import Derived.Test.YtpbcabanpppfoaaGreatA9
set_option linter.all false
namespace Go.Proofs.YtpbcabanpppfoaaGreat
open Go Go.Gx Go.Vz
open Go.IntKind (wrap)
open List (flatMap getD length take replicate)
set_option maxRecDepth 100000
noncomputable section
def a0a : Nat -> Nat -> List UInt8
 | 0, _ => []
 | f + 1, n => bif Nat.beq n 0 then [] else a0a f (n / 256) ++ [UInt8.ofNat (n % 256)]
def a1w (n : Nat) : List UInt8 := a0a 8 n
def b3p (f : Nat) : a0a f 0 = [] := by cases f <;> rfl
def b6v {f n : Nat} (h : 0 < n) (hf : n < 256 ^ f) : ∃ g, f = g + 1 /\ a0a f n = a0a g (n / 256) ++ [UInt8.ofNat (n % 256)] /\ n / 256 < 256 ^ g := by
 cases f with
 | zero => simp at hf; omega
 | succ g =>
  refine ⟨g, rfl, ?_, ?_⟩
  ·have : Nat.beq n 0 = false := by cases n with | zero => omega | succ n => rfl
   simp [a0a, this]
  ·rw [R5] at hf; omega
def e5u : Con D := { ts := [.int], rt := [.sl .u8], pre := some (fun a => 0 <= a.1 /\ a.1 <= 9007199254740991), ret := fun a => (a1w a.1.toNat, ()) }
def f1h (N : Int) : LH D := ⟨Nat × Nat × List UInt8, [0, 3], fun i => [.i .i64 (i.2.1 : Nat), .own 0], fun i => i.2.1 < 256 ^ i.1 /\ a1w N.toNat = a0a i.1 i.2.1 ++ i.2.2 /\ i.1 + i.2.2.length <= 8 /\ i.2.1 <= 9007199254740991, fun i => i.1, [(.sl 3, .u8, 5)], fun i => [.arr .u8 5 i.2.2], [], fun _ => []⟩
def f1i {n : Nat} : Int.toNat (wrap .u8 (Int.tmod (n : Int) 256)) = n % 256 := by
 have h : Int.tmod (n : Int) 256 = ((n % 256 : Nat) : Int) := by rw [Ax (by omega)]; omega
 rw [h, IntKind.wrap_u8]; omega
def f1j {n : Nat} (h : n <= 9007199254740991) : wrap .i64 (Int.tdiv (n : Int) 256) = ((n / 256 : Nat) : Int) := by
 have h2 : Int.tdiv (n : Int) 256 = ((n / 256 : Nat) : Int) := by rw [Int.tdiv_eq_ediv_of_nonneg (by omega)]; omega
 rw [h2]; exact t6 (by omega)
def g6j : e5u.ok Tp 208 := Con.prove (c := e5u) EF Z0 K0 (H := fun a _ i => match i with | 2 => some (.inv (f1h a.1)) | _ => none) (n := 4) fun (a : HL D e5u.ts) (hp : e5u.holds a) =>
 And.intro (⟨(8, a.1.toNat, []), by
   have h : 0 <= a.1 := hp.1; show [iv a.1, .own 0] = [SV.i .i64 ((a.1.toNat : Nat) : Int), .own 0]; rw [Int.toNat_of_nonneg h], rfl, rfl, by
   have h : a.1 <= 9007199254740991 := hp.2; have h0 : 0 <= a.1 := hp.1; refine ⟨?_, ?_, B9 _, ?_⟩
   ·show a.1.toNat < 256 ^ 8; have : a.1.toNat <= 9007199254740991 := Cq.2 h; omega
   ·show _ = a0a 8 a.1.toNat ++ []; rw [D6]; rfl
   ·exact Cq.2 h⟩ : Ent (f1h a.1) [iv a.1, .own 0] [.arr .u8 5 []] [])
 fun (i : Nat × Nat × List UInt8) (hI : (f1h a.1).inv i) =>
 bq (decide (0 < (i.2.1 : Int))) (fun h2 =>
  bN (Nat.ble ((length [UInt8.ofNat (Int.toNat (wrap .u8 (Int.tmod (i.2.1 : Int) (256 : Int))))] + length i.2.2) * m6 Tp 5) i5) (by
   rw [mb5]; exact D3 (by have h : i.1 + i.2.2.length <= 8 := hI.2.2.1; simp only [E9]; unfold i5; omega)) (
  (by
   obtain ⟨k1, k2, k3, k4⟩ := hI; obtain ⟨g, hg, e1, e2⟩ := b6v (by simpa using h2) k1; exact ⟨(g, i.2.1 / 256, [UInt8.ofNat (i.2.1 % 256)] ++ i.2.2), by rw [f1j k4]; rfl, by rw [f1i]; rfl, rfl, ⟨e2, by rw [k2, e1, B6], by show g + ([UInt8.ofNat (i.2.1 % 256)] ++ i.2.2).length <= 8; simp; omega, by show i.2.1 / 256 <= _; omega⟩, by show g < i.1; omega⟩ :
   Rnd (f1h a.1) i [iv (wrap .i64 (Int.tdiv (i.2.1 : Int) (256 : Int))), .own 0] [.arr .u8 5 ([UInt8.ofNat (Int.toNat (wrap .u8 (Int.tmod (i.2.1 : Int) (256 : Int))))] ++ i.2.2)] [])))
 (fun h2 => (by
  have h : i.2.1 = 0 := by simpa using h2
  have k2 : a1w a.1.toNat = a0a i.1 i.2.1 ++ i.2.2 := hI.2.1; rw [h, b3p, T8] at k2; show some (i.2.2, ()) = some (a1w a.1.toNat, ()); rw [k2] : some (i.2.2, ()) = some (e5u.ret a)))
def b6w (n : Nat) : List UInt8 := UInt8.ofNat (a1w n).length :: a1w n
def c1t (a : HL D [.int]) : HL D [.sl .u8, .int] := bif decide (a.1 < 0) then ([], 9, ()) else bif decide (9007199254740991 < a.1) then ([], 9, ()) else (b6w a.1.toNat, 0, ())
def a3v : Con D := { ts := [.int], rt := [.sl .u8, .int], ret := c1t }
def b5a : ∀ {f n : Nat}, (a0a f n).length <= f
 | 0, _ => B9 _
 | f + 1, n => by
  unfold a0a; cases Nat.beq n 0 with
  | true => simp
  | false => have := b5a (f := f) (n := n / 256); simp; exact this
def b6x : ∀ {f n k : Nat}, n < 256 ^ f -> (k < (a0a f n).length ↔ 0 < n / 256 ^ k)
 | 0, n, k, hf => by
  have : n = 0 := by simpa using hf
  subst this; simp [a0a]
 | f + 1, n, k, hf => by
  cases n with
  | zero => simp [a0a]
  | succ m =>
   have hf' : (m + 1) / 256 < 256 ^ f := by rw [R5] at hf; omega
   have e : a0a (f + 1) (m + 1) = a0a f ((m + 1) / 256) ++ [UInt8.ofNat ((m + 1) % 256)] := rfl; rw [e, B7, E9]; cases k with
   | zero => simp
   | succ k =>
    have := b6x (k := k) hf'; rw [R5, Y8, <- Nat.div_div_eq_div_mul, <- this]; omega
def c5f : ∀ {f n k : Nat}, n < 256 ^ f -> k < (a0a f n).length -> (a0a f n)[(a0a f n).length - 1 - k]? = some (UInt8.ofNat (n / 256 ^ k % 256))
 | 0, n, k, hf, h => by simp [a0a] at h
 | f + 1, n, k, hf, h => by
  cases n with
  | zero => simp [a0a] at h
  | succ m =>
   have hf' : (m + 1) / 256 < 256 ^ f := by rw [R5] at hf; omega
   have e : a0a (f + 1) (m + 1) = a0a f ((m + 1) / 256) ++ [UInt8.ofNat ((m + 1) % 256)] := rfl; rw [e, B7, E9] at h ⊢; cases k with
   | zero =>
    rw [show (a0a f ((m + 1) / 256)).length + 1 - 1 - 0 = (a0a f ((m + 1) / 256)).length by omega, G7 (B9 _)]; simp
   | succ k =>
    have := c5f (k := k) hf' (by omega); rw [show (a0a f ((m + 1) / 256)).length + 1 - 1 - (k + 1) = (a0a f ((m + 1) / 256)).length - 1 - k by omega, F4 (by omega), this,
     R5, Y8 (256 ^ k), <- Nat.div_div_eq_div_mul]
def e5v {N : Int} {k : Nat} (h0 : 0 <= N) (hk : k <= 8) : a7b .i64 N (wrap .i64 (8 * (k : Int))) = ((N.toNat / 256 ^ k : Nat) : Int) := by
 have e1 : wrap .i64 (8 * (k : Int)) = ((8 * k : Nat) : Int) := by rw [show 8 * (k : Int) = ((8 * k : Nat) : Int) by omega]; exact t6 (by omega)
 obtain ⟨n, rfl⟩ := I5 h0
 rw [e1]
 show ((n : Int)).fdiv (2 ^ (min ((8 * k : Nat) : Int).toNat 64)) = _
 have e2 : min ((8 * k : Nat) : Int).toNat 64 = 8 * k := by rw [G6]; omega
 have e3 : (2 : Int) ^ (8 * k) = ((256 ^ k : Nat) : Int) := by rw [Int.pow_mul]; simp
 rw [e2, e3, Int.fdiv_eq_ediv_of_nonneg _ (Int.natCast_nonneg _), G6]
 exact (Int.natCast_ediv n (256 ^ k)).symm
def d3y {m : Nat} : Int.toNat (wrap .u8 (m : Int)) = m % 256 := by rw [IntKind.wrap_u8]; omega
def c7j (N : Int) : LH D := ⟨Nat, [4], fun k => [.i .i64 (k : Nat)], fun k => k <= (a1w N.toNat).length, fun k => 8 - k, [], fun _ => [], [], fun _ => []⟩
def c7k (N : Int) : LH D := ⟨Nat, [24, 5], fun k => [.i .i64 (k : Nat), .own 0], fun k => k <= (a1w N.toNat).length, fun k => 8 - k, [(.sl 5, .u8, 5)], fun k => [.arr .u8 5 (UInt8.ofNat (a1w N.toNat).length :: (a1w N.toNat).take k)], [], fun _ => []⟩
def c7l : a3v.ok Tp 286 := Con.prove (c := a3v) EF Z0 K0 (H := fun a _ i => match i with | 4 => some (.inv (c7j a.1)) | 8 => some (.inv (c7k a.1)) | _ => none) (n := 4) fun (a : HL D a3v.ts) (_ : a3v.holds a) =>
 bq (decide (a.1 < 0)) (fun h1 => a3v.lf a (ct h1 rfl)) (fun h1 =>
 bq (decide (9007199254740991 < a.1)) (fun h2 => a3v.lf a (cf h1 (ct h2 rfl))) (fun h2 =>
 have h0 : 0 <= a.1 := U2.1 (A9 h1)
 have hm : a.1.toNat < 256 ^ 8 := by
  have : a.1 <= 9007199254740991 := U2.1 (A9 h2); have : a.1.toNat <= 9007199254740991 := Cq.2 this; omega
 have hL : (a1w a.1.toNat).length <= 8 := b5a
 And.intro (⟨(0 : Nat), rfl, rfl, rfl, C0 _⟩ : Ent (c7j a.1) [iv 0] [] [])
 fun (k : Nat) (hk : (c7j a.1).inv k) =>
 have hk : k <= (a1w a.1.toNat).length := hk
 have hs := e5v (k := k) h0 (D5 hk hL)
 bN (decide (0 <= wrap .i64 ((8 : Int) * (k : Int)))) (by
  rw [show 8 * (k : Int) = ((8 * k : Nat) : Int) by omega, t6 (by omega)]; simp; omega) (
 bq (decide (0 < a7b .i64 a.1 (wrap .i64 ((8 : Int) * (k : Int))))) (fun h4 =>
  (by
   have h4' : k < (a1w a.1.toNat).length := (b6x hm).2 (by rw [hs] at h4; have := A6 h4; omega)
   exact ⟨(k + 1 : Nat), by rw [o7 h4' (by unfold i5; omega)]; rfl, rfl, rfl, h4', by show 8 - (k + 1) < 8 - k; omega⟩ : Rnd (c7j a.1) k [iv (wrap .i64 ((k : Int) + 1))] [] []))
 (fun h4 =>
  have hkL : k = (a1w a.1.toNat).length := by
   have : ¬ k < (a1w a.1.toNat).length := fun h => by
    have := (b6x hm).1 h; rw [hs] at h4; have := A9 h4; omega
   omega
  And.intro (by
   refine ⟨(0 : Nat), rfl, ?_, rfl, C0 _⟩; show [HB.arr .u8 5 [UInt8.ofNat (Int.toNat (wrap .u8 (k : Int)))]] = [HB.arr .u8 5 [UInt8.ofNat (a1w a.1.toNat).length]]; rw [d3y, <- hkL, N3 (by omega)] : Ent (c7k a.1) [iv 0, .own 0] [.arr .u8 5 [UInt8.ofNat (Int.toNat (wrap .u8 (k : Int)))]] [])
  fun (i : Nat) (hi : (c7k a.1).inv i) =>
  have hi : i <= (a1w a.1.toNat).length := hi
  bq (decide ((i : Int) < (k : Int))) (fun h6 =>
   have h6' : i < k := by simpa using h6
   have hw : wrap .i64 (wrap .i64 ((k : Int) - 1) - (i : Int)) = ((k - 1 - i : Nat) : Int) := by
    rw [show (k : Int) - 1 = ((k - 1 : Nat) : Int) by omega, t6 (by omega), show ((k - 1 : Nat) : Int) - (i : Int) = ((k - 1 - i : Nat) : Int) by omega, t6 (by omega)]
   bN (decide (0 <= wrap .i64 ((8 : Int) * wrap .i64 (wrap .i64 ((k : Int) - 1) - (i : Int))))) (by
    rw [hw, show 8 * ((k - 1 - i : Nat) : Int) = ((8 * (k - 1 - i) : Nat) : Int) by omega, t6 (by omega)]; simp; omega) (
   bN (Nat.ble ((length (UInt8.ofNat (length (a1w (Int.toNat a.1))) :: take i (a1w (Int.toNat a.1))) + length [UInt8.ofNat (Int.toNat (wrap .u8 (a7b .i64 a.1 (wrap .i64 ((8 : Int) * wrap .i64 (wrap .i64 ((k : Int) - 1) - (i : Int)))))))]) * m6 Tp 5) i5) (by
    rw [mb5]; exact D3 (by simp only [I3, C4, List.length_nil]; unfold i5; omega)) (
   (by
    have hs2 := e5v (k := k - 1 - i) h0 (by omega); have hg := c5f (k := k - 1 - i) hm (by show _ < (a1w a.1.toNat).length; omega)
    have hg' : (a1w a.1.toNat)[i]? = some (UInt8.ofNat (a.1.toNat / 256 ^ (k - 1 - i) % 256)) := by
     rw [<- hg]; congr 1; show i = (a1w a.1.toNat).length - 1 - (k - 1 - i); omega
    refine ⟨(i + 1 : Nat), ?_, ?_, rfl, by show i + 1 <= _; omega, by show 8 - (i + 1) < 8 - i; omega⟩
    ·rw [o7 h6' (by unfold i5; omega)]; rfl
    ·show [HB.arr .u8 5 (UInt8.ofNat (a1w a.1.toNat).length :: take i (a1w a.1.toNat) ++ [_])] = [HB.arr .u8 5 (UInt8.ofNat (a1w a.1.toNat).length :: (a1w a.1.toNat).take (i + 1))]; rw [hw, hs2, d3y, S8, hg']; rfl :
    Rnd (c7k a.1) i [iv (wrap .i64 ((i : Int) + 1)), .own 0] [.arr .u8 5 (UInt8.ofNat (length (a1w (Int.toNat a.1))) :: take i (a1w (Int.toNat a.1)) ++ [UInt8.ofNat (Int.toNat (wrap .u8 (a7b .i64 a.1 (wrap .i64 ((8 : Int) * wrap .i64 (wrap .i64 ((k : Int) - 1) - (i : Int)))))))])] []))))
  (fun h6 => a3v.lf a (cf h1 (cf h2 (by
   have h6' : ¬ i < k := by simpa using h6
   show (UInt8.ofNat (a1w a.1.toNat).length :: take i (a1w a.1.toNat), (0 : Int), ()) = (b6w a.1.toNat, 0, ()); rw [F9 (by omega)]; rfl))))))))
def c5g : a3v.ok Tp 177 := Con.prove (c := a3v) EF Z0 (K0.c g6j) (H := H0) (n := 4) fun (a : HL D a3v.ts) (_ : a3v.holds a) =>
 bq (decide (a.1 < 0)) (fun h1 => a3v.lf a (ct h1 rfl)) (fun h1 =>
 bq (decide (9007199254740991 < a.1)) (fun h2 => a3v.lf a (cf h1 (ct h2 rfl))) (fun h2 =>
 And.intro (Pre.mk (p := 0 <= a.1 /\ a.1 <= 9007199254740991) ⟨U2.1 (A9 h1), U2.1 (A9 h2)⟩) (
 brL fun hl : (a1w a.1.toNat).length <= i5 =>
 have hL : (a1w a.1.toNat).length <= 8 := b5a
 bN (Nat.ble ((length [UInt8.ofNat (Int.toNat (wrap .u8 ((a1w a.1.toNat).length : Int)))] + (a1w a.1.toNat).length) * m6 Tp 5) i5) (by
  rw [mb5]; exact D3 (by simp only [E9]; unfold i5; omega))
 (a3v.lf a (cf h1 (cf h2 (by
  show (UInt8.ofNat (Int.toNat (wrap .u8 ((a1w a.1.toNat).length : Int))) :: a1w a.1.toNat, (0 : Int), ()) = (b6w a.1.toNat, 0, ()); rw [d3y, N3 (by omega)]; rfl)))))))
abbrev Γb : Nat -> Option (Con D) := j6 noC 306 b4x
theorem Kb : o8 EF Tp Γb noO := K0.c e5k
def a5e (l : List UInt8) : Nat := l.foldl (fun a c => 256 * a + c.toNat) 0
theorem c1u (l : List UInt8) (c : UInt8) : a5e (l ++ [c]) = 256 * a5e l + c.toNat := by unfold a5e; rw [List.foldl_append]; rfl
theorem c7m : ∀ (l : List UInt8) (a n : Nat), a < n -> l.foldl (fun a c => 256 * a + c.toNat) a < n * 256 ^ l.length
 | [], a, n, h => by simpa using h
 | c :: l, a, n, h => by
  have hc := c.toNat_lt; have := c7m l (256 * a + c.toNat) (256 * n) (by omega); rw [X0, I3, R5, Y8 (256 ^ l.length), <- Nat.mul_assoc, Y8 n]; exact this
theorem g6k {l : List UInt8} (h : l.length <= 7) : a5e l < 72057594037927936 := by
 have := c7m l 0 1 (by omega)
 rw [U8] at this
 refine C3 this ?_
 exact D5 (Nat.pow_le_pow_right (by omega) h) (by decide)
theorem d9y {l : List UInt8} (h : l.length <= 6) : a5e l < 281474976710656 := by
 have := c7m l 0 1 (by omega)
 rw [U8] at this
 refine C3 this ?_
 exact D5 (Nat.pow_le_pow_right (by omega) h) (by decide)
theorem h1l {x c : Nat} (hx : x < 281474976710656) (hc : c < 256) : a4a .or .i64 (b4h .i64 (x : Int) 8) (wrap .i64 (c : Int)) = ((256 * x + c : Nat) : Int) := by
 have e1 : b4h .i64 (x : Int) 8 = ((256 * x : Nat) : Int) := by
  show wrap .i64 ((x : Int) * 2 ^ 8) = _; rw [IntWalk.i64_in _ (by omega)]; omega
 have e2 : wrap .i64 (c : Int) = (c : Int) := t6 (by omega)
 rw [e1, e2]
 show wrap .i64 (((BitVec.ofInt 64 ((256 * x : Nat) : Int) ||| BitVec.ofInt 64 (c : Int)).toNat : Nat) : Int) = _
 rw [BitVec.toNat_or, T7, T7, U3, U3, N3 (by omega), N3 (by omega)]
 have : 2 ^ 8 * x + c = 2 ^ 8 * x ||| c := Nat.two_pow_add_eq_or_of_lt (by omega) x
 rw [show 256 * x = 2 ^ 8 * x by omega, <- this]
 exact t6 (by omega)
abbrev hdU (l : List UInt8) : UInt8 := l.getD 0 0
abbrev tlU (l : List UInt8) : List UInt8 := l.drop 1
def tkN (l : List UInt8) : Int × List UInt8 × Int :=
 bif Nat.beq l.length 0 then (0, [], 3) else bif decide (7 < (hdU l).toNat) then (0, [], 4) else bif decide ((tlU l).length < (hdU l).toNat) then (0, [], 3) else
 bif decide (0 < (hdU l).toNat) && decide (((tlU l).getD 0 0).toNat = 0) then (0, [], 4) else bif decide (9007199254740991 < a5e ((tlU l).take (hdU l).toNat)) then (0, [], 9) else
 ((a5e ((tlU l).take (hdU l).toNat) : Nat), (tlU l).drop (hdU l).toNat, 0)
abbrev R3 (x : Int × List UInt8 × Int) : HL D [.int, .sl .u8, .int] := (x.1, x.2.1, x.2.2, ())
def o4 : Con D := { ts := [.sl .u8], rt := [.int, .sl .u8, .int], pre := some (fun a => a.1.length <= 1000000), ret := fun a => R3 (tkN a.1) }
abbrev T1 (l : List UInt8) : List UInt8 := List.drop 1 (take l.length l)
abbrev iB (l : List UInt8) : Int := wrap .i64 ((hdU l).toNat : Int)
abbrev S1 (l : List UInt8) : List UInt8 := List.drop 0 (take (Int.toNat (iB l)) (T1 l))
def f8u (l : List UInt8) : LH D := ⟨Nat, [38, 2], fun i => [.i .i64 (i : Nat), .i .i64 (a5e (l.take i))], fun i => i <= l.length, fun i => l.length - i, [], fun _ => [], [], fun _ => []⟩
theorem b2x (l : List UInt8) : T1 l = tlU l := by unfold T1; rw [D1]
theorem b2y (l : List UInt8) : iB l = ((hdU l).toNat : Int) := t6 (by have := (hdU l).toNat_lt; omega)
theorem f4w (l : List UInt8) : S1 l = (tlU l).take (hdU l).toNat := by unfold S1; rw [b2y, b2x, N8, G6]
theorem g6l {l : List UInt8} {i : Nat} (hl : l.length <= 7) (hi : i < l.length) : Rnd (f8u l) i [iv (wrap .i64 ((i : Int) + 1)), iv (a4a .or .i64 (b4h .i64 (a5e (l.take i) : Nat) 8) (wrap .i64 ((l.getD i 0).toNat : Int)))] [] [] :=
 ⟨(i + 1 : Nat), by
  rw [o7 hi (by unfold i5; omega), h1l (d9y (by rw [C4]; omega)) (l.getD i 0).toNat_lt, <- c1u]
  rw [show l.take i ++ [l.getD i 0] = l.take (i + 1) by rw [S8, B2 hi, B3, B2 hi]; rfl]
  rfl, rfl, rfl, hi, by show l.length - (i + 1) < l.length - i; omega⟩
theorem g6m {a b : Nat} (h : a ≠ b) : Nat.beq a b = false := by
 cases e : Nat.beq a b with
 | false => rfl
 | true => exact absurd (A8 e) h
section
variable {l : List UInt8} (h2 : (((l.length : Nat) : Int) == 0) = false)
include h2
theorem tk2 : Nat.beq l.length 0 = false := g6m fun e => by rw [e] at h2; cases h2
variable (h3 : decide ((7 : Int) < iB l) = false)
include h3
theorem tk3 : decide (7 < (hdU l).toNat) = false := by rw [b2y] at h3; simp at h3 ⊢; omega
variable (h5 : decide (((T1 l).length : Int) < iB l) = false)
include h5
theorem tk5 : decide ((tlU l).length < (hdU l).toNat) = false := by rw [b2y, b2x] at h5; simp at h5 ⊢; omega
end
theorem d3z : o4.ok Tp 300 := Con.prove (c := o4) EF Z0 Kb (H := fun a f r => match f, r with | 300, 11 => some (.inv (f8u (S1 a.1))) | _, _ => none) (n := 2) fun (a : HL D o4.ts) (hp : o4.holds a) =>
 have hp : a.1.length <= 1000000 := hp
 brL fun _ : a.1.length <= i5 =>
 bq (((a.1.length : Nat) : Int) == 0) (fun h2 => (by
   have h2 : a.1.length = 0 := by simpa using h2
   show some (_, _) = some (R3 (tkN a.1)); unfold tkN; rw [h2]; rfl : some ((0 : Int), ([] : List UInt8), (3 : Int), ()) = some (o4.ret a)))
 (fun h2 => have h2' : 0 < a.1.length := Nat.pos_of_ne_zero fun e => by rw [e] at h2; cases h2
 bN (decide ((0 : Int) <= 0) && decide ((0 : Int) < (a.1.length : Int))) (by simp; omega) (
 bN (decide ((0 : Int) <= 1) && (decide ((1 : Int) <= (a.1.length : Int)) && decide ((a.1.length : Int) <= (a.1.length : Int)))) (by simp; omega) (
 bq (decide ((7 : Int) < iB a.1)) (fun h3 => (by
   have h3 : decide (7 < (hdU a.1).toNat) = true := by rw [b2y] at h3; simp at h3 ⊢; omega
   show some (_, _) = some (R3 (tkN a.1)); unfold tkN; rw [tk2 h2, h3]; rfl : some ((0 : Int), ([] : List UInt8), (4 : Int), ()) = some (o4.ret a)))
 (fun h3 =>
 brL fun _ : (T1 a.1).length <= i5 =>
 bq (decide (((T1 a.1).length : Int) < iB a.1)) (fun h5 => (by
   have h5 : decide ((tlU a.1).length < (hdU a.1).toNat) = true := by rw [b2y, b2x] at h5; simp at h5 ⊢; omega
   show some (_, _) = some (R3 (tkN a.1)); unfold tkN; rw [tk2 h2, tk3 h2 h3, h5]; rfl : some ((0 : Int), ([] : List UInt8), (3 : Int), ()) = some (o4.ret a)))
 (fun h5 =>
 have q3 : (hdU a.1).toNat <= 7 := Nat.le_of_not_lt (A9 (tk3 h2 h3))
 have q5 : (hdU a.1).toNat <= (tlU a.1).length := Nat.le_of_not_lt (A9 (tk5 h2 h3 h5))
 have hs : (S1 a.1).length <= 7 := by rw [f4w, C4]; omega
 have tl := fun (h6 : (decide (0 < (hdU a.1).toNat) && decide (((tlU a.1).getD 0 0).toNat = 0)) = false) =>
  bN (decide ((0 : Int) <= 0) && (decide ((0 : Int) <= iB a.1) && decide (iB a.1 <= ((T1 a.1).length : Int)))) (by rw [b2y, b2x]; simp at q5 ⊢; omega) (
  brL fun _ : (S1 a.1).length <= i5 =>
  And.intro (⟨(0 : Nat), rfl, rfl, rfl, C0 _⟩ : Ent (f8u (S1 a.1)) [iv 0, iv 0] [] [])
  fun (i : Nat) (hI : i <= (S1 a.1).length) =>
  bq (decide ((i : Int) < ((S1 a.1).length : Int))) (fun h7 => have hi : i < (S1 a.1).length := by have := A6 h7; omega
   bN (iX (i : Int) ((S1 a.1).length : Int)) (by simp only [A7, C6]; omega) (
   g6l hs hi))
  (fun h7 => have hi : i = (S1 a.1).length := by have := A9 h7; omega
   have ef : a5e ((S1 a.1).take i) = a5e ((tlU a.1).take (hdU a.1).toNat) := by rw [hi, D1, f4w]
   bq (decide ((9007199254740991 : Int) < (a5e ((S1 a.1).take i) : Nat))) (fun h8 => (by
     have h8 : decide (9007199254740991 < a5e ((tlU a.1).take (hdU a.1).toNat)) = true := by rw [ef] at h8; simp only [C6] at h8 ⊢; omega
     show some (_, _) = some (R3 (tkN a.1)); unfold tkN; rw [tk2 h2, tk3 h2 h3, tk5 h2 h3 h5, h6, h8]; rfl : some ((0 : Int), ([] : List UInt8), (9 : Int), ()) = some (o4.ret a)))
   (fun h8 =>
   bN (decide ((0 : Int) <= iB a.1) && (decide (iB a.1 <= ((T1 a.1).length : Int)) && decide (((T1 a.1).length : Int) <= ((T1 a.1).length : Int)))) (by rw [b2y, b2x]; simp at q5 ⊢; omega) (
   pQ ((List.drop (Int.toNat (iB a.1)) (take (T1 a.1).length (T1 a.1))).length <= 1000000) (by show (List.drop _ (take _ (T1 a.1))).length <= 1000000; rw [b2x]; simp; omega) (
   (by
    have h8 : decide (9007199254740991 < a5e ((tlU a.1).take (hdU a.1).toNat)) = false := by rw [ef] at h8; simp only [Q4] at h8 ⊢; omega
    show some (_, _) = some (R3 (tkN a.1)); unfold tkN; rw [tk2 h2, tk3 h2 h3, tk5 h2 h3 h5, h6, h8, ef, D1, b2x, b2y]; rfl :
    some (((a5e ((S1 a.1).take i) : Nat) : Int), List.drop (Int.toNat (iB a.1)) (take (T1 a.1).length (T1 a.1)), (0 : Int), ()) = some (o4.ret a)))))))
 bq (decide ((0 : Int) < iB a.1)) (fun h6 =>
  have p6 : 0 < (hdU a.1).toNat := by rw [b2y] at h6; simp at h6 ⊢; omega
  bN (decide ((0 : Int) <= 0) && decide ((0 : Int) < ((T1 a.1).length : Int))) (by rw [b2x]; simp at q5 p6 ⊢; omega) (
  bq (((((T1 a.1).getD 0 0).toNat : Nat) : Int) == 0) (fun h7 => (by
    have h7 : (decide (0 < (hdU a.1).toNat) && decide (((tlU a.1).getD 0 0).toNat = 0)) = true := by
     rw [b2x] at h7; have h7 : ((tlU a.1).getD 0 0).toNat = 0 := by have := eq_of_beq h7; omega
     rw [h7]; simpa using p6
    show some (_, _) = some (R3 (tkN a.1)); unfold tkN; rw [tk2 h2, tk3 h2 h3, tk5 h2 h3 h5, h7]; rfl : some ((0 : Int), ([] : List UInt8), (4 : Int), ()) = some (o4.ret a)))
  (fun h7 => tl (by
    rw [b2x] at h7; have h7 : ¬ ((tlU a.1).getD 0 0).toNat = 0 := fun e => by rw [e] at h7; cases h7
    rw [E5 h7, O5]))))
 (fun h6 => tl (by
  have p6 : ¬ 0 < (hdU a.1).toNat := by rw [b2y] at h6; simp at h6 ⊢; omega
  rw [E5 p6, X5])))))))
def tkF (l : List UInt8) (n : Int) : List UInt8 × List UInt8 × Int := bif decide (n < 0) then ([], [], 2) else bif decide ((l.length : Int) < n) then ([], [], 3) else (l.take n.toNat, l.drop n.toNat, 0)
def a1n : Con D := { ts := [.sl .u8, .int], rt := [.sl .u8, .sl .u8, .int], pre := some (fun a => a.1.length <= 1000000), ret := fun a => ((tkF a.1 a.2.1).1, (tkF a.1 a.2.1).2.1, (tkF a.1 a.2.1).2.2, ()) }
theorem d4a : a1n.ok Tp 298 := Con.prove (c := a1n) EF Z0 Kb (H := H0) (n := 2) fun (a : HL D a1n.ts) (hp : a1n.holds a) =>
 have hp : a.1.length <= 1000000 := hp
 bq (decide (a.2.1 < 0)) (fun h1 => (by simp only [a1n, tkF, h1, B5] : some (([] : List UInt8), ([] : List UInt8), (2 : Int), ()) = some (a1n.ret a))) (fun h1 =>
 brL fun _ : a.1.length <= i5 =>
 bq (decide ((a.1.length : Int) < a.2.1)) (fun h3 => (by simp only [a1n, tkF, h1, h3, B5, B8] : some (([] : List UInt8), ([] : List UInt8), (3 : Int), ()) = some (a1n.ret a))) (fun h3 =>
 have g1 : (0 : Int) <= a.2.1 := U2.1 (A9 h1)
 have g3 : a.2.1 <= (a.1.length : Int) := U2.1 (A9 h3)
 bN (decide ((0 : Int) <= 0) && (decide (0 <= a.2.1) && decide (a.2.1 <= (a.1.length : Int)))) (by rw [F6 g1, F6 g3]; rfl) (
 bN (decide (0 <= a.2.1) && (decide (a.2.1 <= (a.1.length : Int)) && decide ((a.1.length : Int) <= (a.1.length : Int)))) (by rw [F6 g1, F6 g3, F6 (Z5 _)]; rfl) (
 pQ ((List.drop 0 (take (Int.toNat a.2.1) a.1)).length <= 1000000) (by rw [N8, C4]; exact D5 (T3 _ _) hp) (
 pQ ((List.drop (Int.toNat a.2.1) (take a.1.length a.1)).length <= 1000000) (by rw [H7, C4]; exact D5 (Nat.sub_le _ _) (D5 (T3 _ _) hp)) (
 (by simp only [a1n, tkF, h1, h3, B8, N8, D1] : some (List.drop 0 (take (Int.toNat a.2.1) a.1), List.drop (Int.toNat a.2.1) (take a.1.length a.1), (0 : Int), ()) = some (a1n.ret a))))))))
def HU {α : Type} : α -> Nat -> Nat -> Option (Hint D) := fun _ _ _ => some (.unr 12)
abbrev Γn := j6 noC 286 a3v
def Kn : o8 EF Tp Γn noO := K0.c c7l
def N (x : Int) : List UInt8 := (a3v.ret (x, ())).1
def j5 (x : Int) : (N x).length <= 40 := by
 show (c1t (x, ())).1.length <= 40
 unfold c1t
 cases decide (x < 0) with
 | true => simp
 | false =>
  cases decide (9007199254740991 < x) with
  | true => simp
  | false =>
   have : (a1w x.toNat).length <= 8 := b5a; show (b6w x.toNat).length <= 40; unfold b6w; rw [I3]; omega
def a1x (d : Dig) : d.l.length <= 40 := by rw [d.h]; omega
def m7 {xs ys : List UInt8} (k : Nat) (h1 : xs.length <= 40 * k) (h2 : ys.length <= 40) (hk : k <= 10000) : Nat.ble ((xs.length + ys.length) * m6 Tp 5) i5 = true := by
 rw [mb5]; exact D3 (by unfold i5; omega)
def j7 {xs ys : List UInt8} {k : Nat} (h1 : xs.length <= 40 * k) (h2 : ys.length <= 40) : (xs ++ ys).length <= 40 * (k + 1) := by rw [B7]; omega
def m8 (m : Mark) : List UInt8 := N m.seq ++ m.dig.l
def i6 (s : j3) : List UInt8 := N s.seq ++ (s.dig.l ++ N s.view)
def j0 (c : i4) : List UInt8 := N c.node ++ (N c.view ++ (N c.low ++ (N (c.mz.length : Nat) ++ (c.mz.flatMap m8 ++ (N (c.p.length : Nat) ++ (c.p.flatMap i6 ++ (N (c.q.length : Nat) ++ c.q.flatMap i6)))))))
section
variable (n v : Int) (b : UInt8)
def w1 : List UInt8 := [] ++ N n
def w2 : List UInt8 := w1 n ++ N v
def w3 : List UInt8 := w2 n v ++ N 0
def w4 : List UInt8 := w3 n v ++ N (1 : Nat)
def w5 : List UInt8 := w4 n v ++ N 0
def w6 : List UInt8 := w5 n v ++ (d9w 9).l
def w7 : List UInt8 := w6 n v ++ N (0 : Nat)
def w8 : List UInt8 := w7 n v ++ N (1 : Nat)
def w9 : List UInt8 := w8 n v ++ N 1
def w10 : List UInt8 := w9 n v ++ (a9x b 1).l
def w11 : List UInt8 := w10 n v b ++ N 0
def f8v : w11 n v b = j0 (a0g n v b) := by
 simp [w11, w10, w9, w8, w7, w6, w5, w4, w3, w2, w1, j0, a0g, m8, i6, B6]
def l1 : (w1 n).length <= 40 * 1 := j7 (k := 0) (B9 _) (j5 _)
def l2 : (w2 n v).length <= 40 * 2 := j7 (l1 n) (j5 _)
def l3 : (w3 n v).length <= 40 * 3 := j7 (l2 n v) (j5 _)
def l4 : (w4 n v).length <= 40 * 4 := j7 (l3 n v) (j5 _)
def l5 : (w5 n v).length <= 40 * 5 := j7 (l4 n v) (j5 _)
def l6 : (w6 n v).length <= 40 * 6 := j7 (l5 n v) (a1x _)
def l7 : (w7 n v).length <= 40 * 7 := j7 (l6 n v) (j5 _)
def l8 : (w8 n v).length <= 40 * 8 := j7 (l7 n v) (j5 _)
def l9 : (w9 n v).length <= 40 * 9 := j7 (l8 n v) (j5 _)
def l10 : (w10 n v b).length <= 40 * 10 := j7 (l9 n v) (a1x _)
def l11 : (w11 n v b).length <= 40 * 11 := j7 (l10 n v b) (j5 _)
end
def b5b (i : Int × Int × UInt8) : Prop := 1 <= i.1 /\ i.1 <= 28 /\ 1 <= i.2.1 /\ i.2.1 <= 255
def a4c : Con D := { ts := [.st 3], rt := [.sl .u8, .int], pre := some (fun a => ∃ i : Int × Int × UInt8, a = (a0g i.1 i.2.1 i.2.2, ()) /\ b5b i), ret := fun a => (j0 a.1, 0, ()) }
abbrev d6s (b : UInt8) : Int := Option.getD (a0z (E := D) (.st 1) .int (m9 (E := D) (.st 1) .int (m9 (E := D) (.st 1) .int [] ⟨1, a9x b 1⟩ (Option.getD (a0z (E := D) (.st 1) .int [] ⟨1, a9x b 1⟩) (0 : Int))) ⟨1, a9x b 1⟩ (wrap .i64 (Option.getD (a0z (E := D) (.st 1) .int [] ⟨1, a9x b 1⟩) (0 : Int) + 1))) ⟨1, a9x b 1⟩) 0
def d0s (b : UInt8) : d6s b = 1 := by
 simp [d6s, a0z, m9, a1q, a3m]; decide
abbrev d6t (b : UInt8) : Int := Option.getD (a0z (E := D) (.st 1) .int (m9 (E := D) (.st 1) .int (m9 (E := D) (.st 1) .int [] ⟨1, a9x b 1⟩ (Option.getD (a0z (E := D) (.st 1) .int [] ⟨1, a9x b 1⟩) (0 : Int))) ⟨1, a9x b 1⟩ (wrap .i64 (Option.getD (a0z (E := D) (.st 1) .int (m9 (E := D) (.st 1) .int [] ⟨1, a9x b 1⟩ (Option.getD (a0z (E := D) (.st 1) .int [] ⟨1, a9x b 1⟩) (0 : Int))) ⟨1, a9x b 1⟩) (0 : Int) + 1))) ⟨1, a9x b 1⟩) 0
def d0t (b : UInt8) : d6t b = 1 := by
 simp [d6t, a0z, m9, a1q, a3m]; decide
def f8w : a4c.ok Tp 83 := Con.proveS (c := a4c) EF Z0 Kn (fun i : Int × Int × UInt8 => (a0g i.1 i.2.1 i.2.2, ())) b5b (fun a h => h) (H := HU) (n := 6) fun (i : Int × Int × UInt8) (hq : b5b i) =>
 bq (decide (1 <= i.1)) (fun h1 => bq (!decide (i.1 <= 28)) (fun h2 => (by have := hq.2.1; simp [this] at h2 : some ([], 2, ()) = some (a4c.ret (a0g i.1 i.2.1 i.2.2, ()))))
 (fun _ => bq (decide (1 <= i.2.1)) (fun h3 => bq (!decide (i.2.1 <= 1048576)) (fun h4 => (by have := hq.2.2.2; simp at h4; omega : some ([], 2, ()) = some (a4c.ret (a0g i.1 i.2.1 i.2.2, ()))))
 (fun _ =>
 have tl :=
 bN (Nat.ble ((length ([] : List UInt8) + (N i.1).length) * m6 Tp 5) i5) (m7 0 (B9 _) (j5 _) (by omega)) (
 bN (Nat.ble (((w1 i.1).length + (N i.2.1).length) * m6 Tp 5) i5) (m7 1 (l1 _) (j5 _) (by omega)) (
 bN (Nat.ble (((w2 i.1 i.2.1).length + (N 0).length) * m6 Tp 5) i5) (m7 2 (l2 _ _) (j5 _) (by omega)) (
 bN (Nat.ble (((w3 i.1 i.2.1).length + (N (1 : Nat)).length) * m6 Tp 5) i5) (m7 3 (l3 _ _) (j5 _) (by omega)) (
 bN (Nat.ble (((w4 i.1 i.2.1).length + (N 0).length) * m6 Tp 5) i5) (m7 4 (l4 _ _) (j5 _) (by omega)) (
 bN (Nat.ble (((w5 i.1 i.2.1).length + (d9w 9).l.length) * m6 Tp 5) i5) (m7 5 (l5 _ _) (a1x _) (by omega)) (
 bN (Nat.ble (((w6 i.1 i.2.1).length + (N (0 : Nat)).length) * m6 Tp 5) i5) (m7 6 (l6 _ _) (j5 _) (by omega)) (
 bN (Nat.ble (((w7 i.1 i.2.1).length + (N (1 : Nat)).length) * m6 Tp 5) i5) (m7 7 (l7 _ _) (j5 _) (by omega)) (
 bN (Nat.ble (((w8 i.1 i.2.1).length + (N 1).length) * m6 Tp 5) i5) (m7 8 (l8 _ _) (j5 _) (by omega)) (
 bN (Nat.ble (((w9 i.1 i.2.1).length + (a9x i.2.2 1).l.length) * m6 Tp 5) i5) (m7 9 (l9 _ _) (a1x _) (by omega)) (
 bN (Nat.ble (((w10 i.1 i.2.1 i.2.2).length + (N 0).length) * m6 Tp 5) i5) (m7 10 (l10 _ _ _) (j5 _) (by omega)) (
 (by rw [f8v]; rfl : some (w11 i.1 i.2.1 i.2.2, 0, ()) = some (a4c.ret (a0g i.1 i.2.1 i.2.2, ()))))))))))))))
 And.intro (bq (!decide (0 <= wrap .i64 (i.2.1 - 1))) (fun h5 => (by
  have k1 := hq.2.2.1; have k2 := hq.2.2.2; rw [IntWalk.i64_in _ (by omega)] at h5; simp at h5; omega : some ([], 2, ()) = some (a4c.ret (a0g i.1 i.2.1 i.2.2, ()))))
 (fun _ => bq (decide (1 < d6s i.2.2)) (fun h6 => (by rw [d0s] at h6; simp at h6 : some ([], 2, ()) = some (a4c.ret (a0g i.1 i.2.1 i.2.2, ()))))
 (fun _ => tl)))
 (bq (!decide (0 <= wrap .i64 (i.2.1 - 1))) (fun h5 => (by
  have k1 := hq.2.2.1; have k2 := hq.2.2.2; rw [IntWalk.i64_in _ (by omega)] at h5; simp at h5; omega : some ([], 2, ()) = some (a4c.ret (a0g i.1 i.2.1 i.2.2, ()))))
 (fun _ => bq (decide (1 < d6t i.2.2)) (fun h6 => (by rw [d0t] at h6; simp at h6 : some ([], 2, ()) = some (a4c.ret (a0g i.1 i.2.1 i.2.2, ()))))
 (fun _ => tl)))))
 (fun h3 => (by have := hq.2.2.1; simp at h3; omega : some ([], 2, ()) = some (a4c.ret (a0g i.1 i.2.1 i.2.2, ()))))))
 (fun h1 => (by have := hq.1; simp at h1; omega : some ([], 2, ()) = some (a4c.ret (a0g i.1 i.2.1 i.2.2, ()))))
def Con.weak {c : Con D} {f : Nat} (h : c.ok Tp f) (p : HL D c.ts -> Prop) (r : HL D c.ts -> HL D c.rt) (hr : ∀ a, p a -> c.holds a /\ c.ret a = r a) : ({ ts := c.ts, rt := c.rt, pre := some p, ret := r } : Con D).ok Tp f := by
 intro a G w vs hw hp hv
 obtain ⟨h1, h2⟩ := hr a hp
 have := h a G w vs hw h1 hv
 rw [h2] at this
 exact this
def a2o : Int -> List UInt8
 | .ofNat 0 => [0]
 | .ofNat (k + 1) => [1, UInt8.ofNat (k + 1)]
 | .negSucc _ => []
abbrev isS (x : Int) : Prop := ∃ k : Nat, k <= 255 /\ x = (k : Int)
def f8x {k : Nat} (h : k <= 255) : b6w k = a2o (k : Int) := by
 cases k with
 | zero => rfl
 | succ k =>
  show UInt8.ofNat (a1w (k + 1)).length :: a1w (k + 1) = [1, UInt8.ofNat (k + 1)]; have : a1w (k + 1) = [UInt8.ofNat (k + 1)] := by
   show a0a 7 ((k + 1) / 256) ++ [UInt8.ofNat ((k + 1) % 256)] = _; rw [Nat.div_eq_of_lt (by omega), N3 (by omega)]; rfl
  rw [this]; rfl
def e5w : Con D := { ts := [.int], rt := [.sl .u8, .int], pre := some (fun a => isS a.1), ret := fun a => (a2o a.1, 0, ()) }
def f1k : e5w.ok Tp 286 := Con.weak c7l _ _ fun a ⟨k, hk, h⟩ => ⟨trivial, by
 obtain ⟨x, u⟩ := a
 have h : x = (k : Int) := h
 subst h
 show c1t ((k : Int), ()) = (a2o (k : Int), 0, ())
 unfold c1t
 have h1 : decide ((k : Int) < 0) = false := by simp
 have h2 : decide (9007199254740991 < (k : Int)) = false := by simp; omega
 show (bif decide ((k : Int) < 0) then _ else bif decide (9007199254740991 < (k : Int)) then _ else (b6w (Int.toNat (k : Int)), 0, ())) = _
 rw [h1, h2, G6, f8x hk]; rfl⟩
def tkS : List UInt8 -> Int × List UInt8 × Int
 | [] => (0, [], 3)
 | m :: r => bif Nat.beq m.toNat 0 then (0, r, 0) else match r with
  | [] => (0, [], 3)
  | y :: r' => ((y.toNat : Nat), r', 0)
def f4x : Con D := { ts := [.sl .u8], rt := [.int, .sl .u8, .int], pre := some (fun a => ∃ (k : Nat) (r : List UInt8), k <= 255 /\ r.length <= 1000 /\ a.1 = a2o (k : Int) ++ r), ret := fun a => R3 (tkS a.1) }
def g6n {k : Nat} {r : List UInt8} (hk : k <= 255) : tkN (a2o (k : Int) ++ r) = tkS (a2o (k : Int) ++ r) := by
 cases k with
 | zero => rfl
 | succ k =>
  show tkN (1 :: UInt8.ofNat (k + 1) :: r) = ((((UInt8.ofNat (k + 1)).toNat : Nat) : Int), r, 0); have hz : (UInt8.ofNat (k + 1)).toNat = k + 1 := by simp; omega
  have e1 : hdU (1 :: UInt8.ofNat (k + 1) :: r) = 1 := rfl; have e2 : tlU (1 :: UInt8.ofNat (k + 1) :: r) = UInt8.ofNat (k + 1) :: r := rfl; have e3 : a5e ((UInt8.ofNat (k + 1) :: r).take (1 : UInt8).toNat) = k + 1 := by
   show 256 * 0 + (UInt8.ofNat (k + 1)).toNat = k + 1; rw [hz]; omega
  have c1 : decide ((UInt8.ofNat (k + 1) :: r).length < (1 : UInt8).toNat) = false := by simp
  have c2 : decide (((UInt8.ofNat (k + 1) :: r).getD 0 0).toNat = 0) = false := by
   show decide ((UInt8.ofNat (k + 1)).toNat = 0) = false; rw [hz]; simp
  have c3 : decide (9007199254740991 < k + 1) = false := by simp; omega
  unfold tkN; rw [e1, e2, e3, c1, c2, c3, hz]
  rfl
def f8y : f4x.ok Tp 300 := Con.weak d3z _ _ fun a ⟨k, r, hk, hr, h⟩ => by
 obtain ⟨x, u⟩ := a
 have h : x = a2o (k : Int) ++ r := h
 subst h
 refine ⟨?_, ?_⟩
 ·show (a2o (k : Int) ++ r).length <= 1000000; have : (a2o (k : Int)).length <= 2 := by cases k <;> simp [a2o]
  rw [B7]; omega
 ·show R3 (tkN (a2o (k : Int) ++ r)) = R3 (tkS (a2o (k : Int) ++ r)); rw [g6n hk]
def a7p (m n : Int) : Con D := { ts := [.int], rt := [.bool], pre := some (fun a => m <= a.1 /\ a.1 <= n), ret := fun _ => (true, ()) }
def d9z : (a7p 1 28).ok Tp 153 := Con.prove (c := a7p 1 28) EF Z0 K0 (H := H0) (n := 2) fun (a : HL D (a7p 1 28).ts) (hp : (a7p 1 28).holds a) =>
 bq (decide (1 <= a.1)) (fun _ => (by rw [F6 hp.2]; rfl : some (decide (a.1 <= 28), ()) = some ((a7p 1 28).ret a))) (fun h => (absurd hp.1 (A9 h) : some (false, ()) = some ((a7p 1 28).ret a)))
def e0a : (a7p 0 1048576).ok Tp 191 := Con.prove (c := a7p 0 1048576) EF Z0 K0 (H := H0) (n := 2) fun (a : HL D (a7p 0 1048576).ts) (hp : (a7p 0 1048576).holds a) =>
 bq (decide (0 <= a.1)) (fun _ => (by rw [F6 hp.2]; rfl : some (decide (a.1 <= 1048576), ()) = some ((a7p 0 1048576).ret a))) (fun h => (absurd hp.1 (A9 h) : some (false, ()) = some ((a7p 0 1048576).ret a)))
abbrev b7x (i : Nat × Nat × UInt8) : i4 := a0g ((i.1 + 1 : Nat) : Int) ((i.2.1 + 1 : Nat) : Int) i.2.2
abbrev okN (i : Nat × Nat × UInt8) : Prop := i.1 + 1 <= 28 /\ i.2.1 + 1 <= 255
def c5h : Con D := { ts := [.st 3], rt := [.bool], pre := some (fun a => ∃ i : Int × Int × UInt8, a = (a0g i.1 i.2.1 i.2.2, ()) /\ b5b i), ret := fun _ => (true, ()) }
abbrev chF (i : Int × Int × UInt8) : Prop := some (false, ()) = some (c5h.ret (a0g i.1 i.2.1 i.2.2, ()))
def f8z : c5h.ok Tp 120 := Con.proveS (c := c5h) EF (Z0.side Kb) Kb (fun i : Int × Int × UInt8 => (a0g i.1 i.2.1 i.2.2, ())) b5b (fun a h => h) (H := HU) (n := 6) fun (i : Int × Int × UInt8) (hq : b5b i) =>
 bq (!bif decide (1 <= i.1) then decide (i.1 <= 28) else false) (fun h1 => (by rw [F6 hq.1, F6 hq.2.1] at h1; exact Bool.noConfusion h1 : chF i)) (fun _ =>
 bq (!bif decide (1 <= i.2.1) then decide (i.2.1 <= 1048576) else false) (fun h1 => (by rw [F6 hq.2.2.1, F6 (Z2 hq.2.2.2 (by decide))] at h1; exact Bool.noConfusion h1 : chF i)) (fun _ =>
 have hv : wrap .i64 (i.2.1 - 1) = i.2.1 - 1 := IntWalk.i64_in _ (by have := hq.2.2.1; have := hq.2.2.2; omega)
 have h0 : decide (0 <= wrap .i64 (i.2.1 - 1)) = true := by rw [hv]; have := hq.2.2.1; simp; omega
 And.intro (bq (!decide (0 <= wrap .i64 (i.2.1 - 1))) (fun h5 => (by rw [h0] at h5; exact Bool.noConfusion h5 : chF i))
  (fun _ => bq (decide (1 < d6s i.2.2)) (fun h6 => (by rw [d0s] at h6; simp at h6 : chF i)) (fun _ => (rfl : some (true, ()) = some (c5h.ret (a0g i.1 i.2.1 i.2.2, ()))))))
 (bq (!decide (0 <= wrap .i64 (i.2.1 - 1))) (fun h5 => (by rw [h0] at h5; exact Bool.noConfusion h5 : chF i))
  (fun _ => bq (decide (1 < d6t i.2.2)) (fun h6 => (by rw [d0t] at h6; simp at h6 : chF i)) (fun _ => (rfl : some (true, ()) = some (c5h.ret (a0g i.1 i.2.1 i.2.2, ()))))))))
abbrev Γx : Nat -> Option (Con D) := j6 (j6 (j6 (j6 (j6 (j6 (j6 (j6 Γh 286 e5w) 300 f4x) 298 a1n) 153 (a7p 1 28)) 191 (a7p 0 1048576)) 120 c5h) 152 a0w) 306 b4x
def Kw2 : o8 EF Tp Γx noO := (((((((Kh.c f1k).c f8y).c d4a).c d9z).c e0a).c f8z).c c5d).c e5k
def Zw : ZF Tp D := Z0.side Kw2
def e5x (k : Nat) : (a2o (k : Int)).length <= 2 := by cases k <;> simp [a2o]
abbrev Tk (l : List UInt8) : Prop := ∃ (k : Nat) (r : List UInt8), k <= 255 /\ r.length <= 1000 /\ l = a2o (k : Int) ++ r
def tkP {k n : Nat} {r : List UInt8} (hk : k <= 255) (hr : r.length <= n) (hn : n <= 1000) : Tk (a2o (k : Int) ++ r) := ⟨k, r, hk, D5 hr hn, rfl⟩
def lnS {k n : Nat} {r : List UInt8} (hr : r.length <= n) : (a2o (k : Int) ++ r).length <= n + 2 := by rw [B7]; have := e5x k; omega
def lnD {d : Dig} {n : Nat} {r : List UInt8} (hr : r.length <= n) : (d.l ++ r).length <= n + 32 := by rw [B7, d.h]; omega
abbrev isP (k : Nat) : Prop := isS ((k : Nat) : Int)
def a9f {k : Nat} (h : k <= 255) : isP k := ⟨k, h, rfl⟩
abbrev uN (k : Nat) : Int := (((UInt8.ofNat (k + 1)).toNat : Nat) : Int)
def d0u {k : Nat} (h : k + 1 <= 255) : uN k = ((k + 1 : Nat) : Int) := by unfold uN; congr 1; simp; omega
def e0b (p : i8 -> Prop) : Con D := { ts := [.st 7], rt := [.int], pre := some (fun a => p a.1), ret := fun _ => (0, ()) }
section
variable (i : Nat × Nat × UInt8)
abbrev f9a : List UInt8 := a2o ((0 : Nat) : Int) ++ []
abbrev f9b : List UInt8 := (a9x i.2.2 1).l ++ f9a
abbrev f9c : List UInt8 := a2o ((1 : Nat) : Int) ++ f9b i
abbrev f9d : List UInt8 := a2o ((1 : Nat) : Int) ++ f9c i
abbrev f9e : List UInt8 := a2o ((0 : Nat) : Int) ++ f9d i
abbrev qt9 : List UInt8 := (d9w 9).l ++ f9e i
abbrev qt8 : List UInt8 := a2o ((0 : Nat) : Int) ++ qt9 i
abbrev qt7 : List UInt8 := a2o ((1 : Nat) : Int) ++ qt8 i
abbrev qt6 : List UInt8 := a2o ((0 : Nat) : Int) ++ qt7 i
abbrev qt5 : List UInt8 := a2o (((i.2.1 + 1) : Nat) : Int) ++ qt6 i
abbrev qt4 : List UInt8 := a2o (((i.1 + 1) : Nat) : Int) ++ qt5 i
abbrev qt3 : List UInt8 := a2o ((1 : Nat) : Int) ++ qt4 i
abbrev qt2 : List UInt8 := a2o ((1 : Nat) : Int) ++ qt3 i
abbrev qt1 : List UInt8 := a2o (((i.1 + 1) : Nat) : Int) ++ qt2 i
abbrev qt0 : List UInt8 := a2o ((7 : Nat) : Int) ++ qt1 i
def g6o : (f9a ).length <= 2 := lnS (B9 0)
def e5y : (f9b i).length <= 34 := lnD (g6o )
def f4y : (f9c i).length <= 36 := lnS (e5y i)
def f4z : (f9d i).length <= 38 := lnS (f4y i)
def g6p : (f9e i).length <= 40 := lnS (f4z i)
def f9f : (qt9 i).length <= 72 := lnD (g6p i)
def g6q : (qt8 i).length <= 74 := lnS (f9f i)
def g6r : (qt7 i).length <= 76 := lnS (g6q i)
def g6s : (qt6 i).length <= 78 := lnS (g6r i)
def g6t : (qt5 i).length <= 80 := lnS (g6s i)
def g6u : (qt4 i).length <= 82 := lnS (g6t i)
def g6v : (qt3 i).length <= 84 := lnS (g6u i)
def g6w : (qt2 i).length <= 86 := lnS (g6v i)
def h1m : (qt1 i).length <= 88 := lnS (g6w i)
end
abbrev rdT (i : Nat × Nat × UInt8) : i8 := ⟨7, uN i.1, 1, 1, 0, 0, Dig.zero, [], ⟨0, [], 0, []⟩, 0, 0, ⟨uN i.1, uN i.2.1, 0, [⟨0, d9w 9⟩], [], [⟨1, a9x i.2.2 1, 0⟩]⟩, [], [], 0, 0, [], [], []⟩
def f9g {i : Nat × Nat × UInt8} (h : okN i) : rdT i = a3i (b7x i) := by
 unfold rdT a3i b7x a0g
 rw [d0u (by have := h.1; omega), d0u h.2]
def f9h : (e0b fun n => ∃ i, n = a3i (b7x i) /\ okN i).ok Tp 39 := Con.proveS (c := e0b fun n => ∃ i, n = a3i (b7x i) /\ okN i) EF Zw Kw2 (fun i => (a3i (b7x i), ())) okN (fun a ⟨i, h, hq⟩ => ⟨i, by obtain ⟨x, u⟩ := a; have h : x = _ := h; rw [h], hq⟩) (H := HU) (n := 8) fun (i : Nat × Nat × UInt8) (hq : okN i) =>
 have q1 : i.1 + 1 <= 28 := hq.1
 have q2 : i.2.1 + 1 <= 255 := hq.2
 pQ ((1 : Int) <= (i.1 + 1 : Nat) /\ ((i.1 + 1 : Nat) : Int) <= 28) ⟨by omega, by omega⟩ (
 pQ (∃ j : Int × Int × UInt8, ((b7x i, ()) : i4 × Unit) = (a0g j.1 j.2.1 j.2.2, ()) /\ b5b j) ⟨((i.1 + 1 : Nat), (i.2.1 + 1 : Nat), i.2.2), rfl, by show (1 : Int) <= (i.1 + 1 : Nat); omega, by show ((i.1 + 1 : Nat) : Int) <= 28; omega, by show (1 : Int) <= (i.2.1 + 1 : Nat); omega, by show ((i.2.1 + 1 : Nat) : Int) <= 255; omega⟩ (
 bq (!(((i.1 + 1 : Nat) : Int) == ((i.1 + 1 : Nat) : Int))) (fun h => (by simp at h : some ((2 : Int), ()) = some ((0 : Int), ()))) (fun _ =>
 pQ (isP 7) (a9f (by omega)) (
 pQ (isP (i.1 + 1)) (a9f (by omega)) (
 pQ (isP 1) (a9f (by omega)) (
 pQ (isP 1) (a9f (by omega)) (
 pQ (isP (i.1 + 1)) (a9f (by omega)) (
 pQ (isP (i.2.1 + 1)) (a9f q2) (
 pQ (isP 0) (a9f (by omega)) (
 pQ (isP 1) (a9f (by omega)) (
 pQ (isP 0) (a9f (by omega)) (
 pQ (isP 0) (a9f (by omega)) (
 pQ (isP 1) (a9f (by omega)) (
 pQ (isP 1) (a9f (by omega)) (
 pQ (isP 0) (a9f (by omega)) (
 pQ (Tk (qt0 i)) (tkP (by omega) (h1m i) (by omega)) (
 pQ (Tk (qt1 i)) (tkP (by omega) (g6w i) (by omega)) (
 pQ (Tk (qt2 i)) (tkP (by omega) (g6v i) (by omega)) (
 pQ (Tk (qt3 i)) (tkP (by omega) (g6u i) (by omega)) (
 pQ (Tk (qt4 i)) (tkP (by omega) (g6t i) (by omega)) (
 pQ (Tk (qt5 i)) (tkP q2 (g6s i) (by omega)) (
 pQ (Tk (qt6 i)) (tkP (by omega) (g6r i) (by omega)) (
 pQ (Tk (qt7 i)) (tkP (by omega) (g6q i) (by omega)) (
 pQ (Tk (qt8 i)) (tkP (by omega) (f9f i) (by omega)) (
 pQ ((qt9 i).length <= 1000000) (D5 (f9f i) (by omega)) (
 pQ (Tk (f9e i)) (tkP (by omega) (f4z i) (by omega)) (
 pQ (Tk (f9d i)) (tkP (by omega) (f4y i) (by omega)) (
 pQ (Tk (f9c i)) (tkP (by omega) (e5y i) (by omega)) (
 pQ ((f9b i).length <= 1000000) (D5 (e5y i) (by omega)) (
 pQ (Tk (f9a )) (tkP (by omega) (B9 0) (by omega)) (
 bq (!dq (α := i8) (a3i (b7x i)) (rdT i)) (fun h => (by rw [f9g hq] at h; simp [dq] at h : some ((2 : Int), ()) = some ((0 : Int), ()))) (fun _ =>
 (rfl : some ((0 : Int), ()) = some ((0 : Int), ()))))))))))))))))))))))))))))))))))
abbrev mkD (f : Nat -> UInt8) : Dig := ⟨[f 0, f 1, f 2, f 3, f 4, f 5, f 6, f 7, f 8, f 9, f 10, f 11, f 12, f 13, f 14, f 15, f 16, f 17, f 18, f 19, f 20, f 21, f 22, f 23, f 24, f 25, f 26, f 27, f 28, f 29, f 30, f 31], rfl⟩
def f9i (d : Dig) : d = mkD fun j => d.l.getD j 0 := by
 obtain ⟨l, h⟩ := d
 match l, h with
 | [a0, a1, a2, a3, a4, a5, a6, a7, a8, a9, a10, a11, a12, a13, a14, a15, a16, a17, a18, a19, a20, a21, a22, a23, a24, a25, a26, a27, a28, a29, a30, a31], _ => rfl
abbrev b1e (from_ view node : Int) (d : Dig) : i8 := ⟨8, from_, 1, 1, view, 0, d, [], ⟨0, [], 0, []⟩, 0, node, ⟨0, 0, 0, [], [], []⟩, [], [], 0, 0, [], [], []⟩
abbrev AI := Nat × Nat × Nat × (Nat -> UInt8)
abbrev d4b (i : AI) : i8 := b1e ((i.1 + 1 : Nat) : Int) ((i.2.1 + 1 : Nat) : Int) ((i.2.2.1 + 1 : Nat) : Int) (mkD i.2.2.2)
abbrev okA (i : AI) : Prop := i.1 + 1 <= 28 /\ i.2.1 + 1 <= 255 /\ i.2.2.1 + 1 <= 28 /\ i.1 ≠ i.2.2.1
section
variable (i : AI)
abbrev qa6 : List UInt8 := (mkD i.2.2.2).l ++ []
abbrev qa5 : List UInt8 := a2o (((i.2.2.1 + 1) : Nat) : Int) ++ qa6 i
abbrev qa4 : List UInt8 := a2o (((i.2.1 + 1) : Nat) : Int) ++ qa5 i
abbrev qa3 : List UInt8 := a2o ((1 : Nat) : Int) ++ qa4 i
abbrev qa2 : List UInt8 := a2o ((1 : Nat) : Int) ++ qa3 i
abbrev qa1 : List UInt8 := a2o (((i.1 + 1) : Nat) : Int) ++ qa2 i
abbrev qa0 : List UInt8 := a2o ((8 : Nat) : Int) ++ qa1 i
def f9j : (qa6 i).length <= 32 := lnD (B9 0)
def g6x : (qa5 i).length <= 34 := lnS (f9j i)
def g6y : (qa4 i).length <= 36 := lnS (g6x i)
def g6z : (qa3 i).length <= 38 := lnS (g6y i)
def g7a : (qa2 i).length <= 40 := lnS (g6z i)
def h1n : (qa1 i).length <= 42 := lnS (g7a i)
end
abbrev rdA (i : AI) : i8 := b1e (uN i.1) (uN i.2.1) (uN i.2.2.1) (mkD i.2.2.2)
def f9k {i : AI} (h : okA i) : rdA i = d4b i := by
 unfold rdA d4b
 rw [d0u (by have := h.1; omega), d0u h.2.1, d0u (by have := h.2.2.1; omega)]
def f9l : (e0b fun n => ∃ i, n = d4b i /\ okA i).ok Tp 39 := Con.proveS (c := e0b fun n => ∃ i, n = d4b i /\ okA i) EF Zw Kw2 (fun i => (d4b i, ())) okA (fun a ⟨i, h, hq⟩ => ⟨i, by obtain ⟨x, u⟩ := a; have h : x = _ := h; rw [h], hq⟩) (H := HU) (n := 8) fun (i : AI) (hq : okA i) =>
 have q1 : i.1 + 1 <= 28 := hq.1
 have q2 : i.2.1 + 1 <= 255 := hq.2.1
 have q3 : i.2.2.1 + 1 <= 28 := hq.2.2.1
 have q4 : i.1 ≠ i.2.2.1 := hq.2.2.2
 pQ ((1 : Int) <= (i.1 + 1 : Nat) /\ ((i.1 + 1 : Nat) : Int) <= 28) ⟨by omega, by omega⟩ (
 pQ ((0 : Int) <= (i.2.1 + 1 : Nat) /\ ((i.2.1 + 1 : Nat) : Int) <= 1048576) ⟨by omega, by omega⟩ (
 bq (decide (0 < ((i.2.1 + 1 : Nat) : Int))) (fun _ =>
 pQ ((1 : Int) <= (i.2.2.1 + 1 : Nat) /\ ((i.2.2.1 + 1 : Nat) : Int) <= 28) ⟨by omega, by omega⟩ (
 bq (!(((i.2.2.1 + 1 : Nat) : Int) != ((i.1 + 1 : Nat) : Int))) (fun h => (by
  have h : ((i.2.2.1 + 1 : Nat) : Int) = ((i.1 + 1 : Nat) : Int) := by simpa using h
  exact absurd (by omega) q4 : some ((2 : Int), ()) = some ((0 : Int), ()))) (fun _ =>
 pQ (isP 8) (a9f (by omega)) (
 pQ (isP (i.1 + 1)) (a9f (by omega)) (
 pQ (isP 1) (a9f (by omega)) (
 pQ (isP 1) (a9f (by omega)) (
 pQ (isP (i.2.1 + 1)) (a9f (by omega)) (
 pQ (isP (i.2.2.1 + 1)) (a9f (by omega)) (
 pQ (Tk (qa0 i)) (tkP (by omega) (h1n i) (by omega)) (
 pQ (Tk (qa1 i)) (tkP (by omega) (g7a i) (by omega)) (
 pQ (Tk (qa2 i)) (tkP (by omega) (g6z i) (by omega)) (
 pQ (Tk (qa3 i)) (tkP (by omega) (g6y i) (by omega)) (
 pQ (Tk (qa4 i)) (tkP (by omega) (g6x i) (by omega)) (
 pQ (Tk (qa5 i)) (tkP (by omega) (f9j i) (by omega)) (
 pQ ((qa6 i).length <= 1000000) (D5 (f9j i) (by omega)) (
 bq (!dq (α := i8) (d4b i) (rdA i)) (fun h => (by rw [f9k hq] at h; simp [dq] at h : some ((2 : Int), ()) = some ((0 : Int), ()))) (fun _ =>
 (rfl : some ((0 : Int), ()) = some ((0 : Int), ())))))))))))))))))))
 (fun h => (by have := A9 h; omega : some ((2 : Int), ()) = some ((0 : Int), ())))))
abbrev KS : List ES := [.box 93 [.nm 1, .dat (.st 0), .dat .int, .dat .int, .dat .int, .nm 2, .nm 3], .box 107 [.nm 4, .nm 5, .dat .int], .map .int (.st 8), .map (.st 10) (.st 9), .map .dig .str, .map .str .bool]
abbrev KD := EL D KS
abbrev isW (c : i4) : Prop := ∃ i : Int × Int × UInt8, c = a0g i.1 i.2.1 i.2.2 /\ b5b i
abbrev e5z (n : i8) : Prop := ∃ i, n = a3i (b7x i) /\ okN i
abbrev f5a (n : i8) : Prop := ∃ i, n = d4b i /\ okA i
abbrev b5c (n : i8) : Prop := e5z n ∨ f5a n
def g7b : (e0b b5c).ok Tp 39 := by
 intro a G w vs hw hp hv
 rcases (hp : e5z a.1 ∨ f5a a.1) with h | h
 ·exact f9h a G w vs hw h hv
 ·exact f9l a G w vs hw h hv
abbrev Γc : Nat -> Option (Con D) := j6 (j6 (j6 (j6 (j6 (j6 (j6 (j6 (j6 noC 40 a8n) 46 a7z) 59 a0j) 60 b2w) 95 b4v) 96 b4w) 83 a4c) 43 a4o) 39 (e0b b5c)
abbrev Δc : Nat -> Option (j8 D) := a0h (a0h noO 50 b3o) 21 c1o
def Kc : o8 EF Tp Γc Δc := ((((((((((K0.c d3v).c c7f).c b0u).c d3w).c e5i).c e5j).c f8w).c b9k).c g7b).o e5h).o f4o
def f1l (xs : List Int) (w : Int) : LH D := ⟨Nat, [8], fun i => [iv i], fun i => i <= xs.length /\ ∀ x ∈ xs.take i, x ≠ w, fun i => xs.length - i, [], fun _ => [], [], fun _ => []⟩
def dlF (xs : List Int) (w : Int) (j : Nat) : List Int := (xs.take j).filter fun x => !(x == w)
def dlL (xs : List Int) (w : Int) (j : Nat) : List Int := dlF xs w j ++ xs.drop (dlF xs w j).length
def f1m (xs : List Int) (w : Int) : LH D := ⟨Nat, [0, 5, 6], fun j => [.own 0, iv (dlF xs w j).length, iv j], fun j => j <= xs.length, fun j => xs.length - j, [(.sl 0, .int, 3)], fun j => [.arr .int 3 (dlL xs w j)], [], fun _ => []⟩
def a4g (c : a0n) (w : Int) : List Int := bif a1d c != 0 then [] else c.nodes.filter fun x => !(x == w)
def a7q : Con D := { ts := [.st 0, .int], rt := [.sl .int], pre := some (fun a => a.1.nodes.length <= 1000000), ret := fun a => (a4g a.1 a.2.1, ()) }
def h1o (a : HL D a7q.ts) : Nat -> Nat -> Option (Hint D) := fun f r => match f, r with | 180, 2 => some (.inv (f1l a.1.nodes a.2.1)) | 141, 5 => some (.inv (f1m a.1.nodes a.2.1)) | _, _ => none
section
variable {xs : List Int} {w : Int}
def c7n {j : Nat} (h : j <= xs.length) : (dlF xs w j).length <= j := D5 (O6 _ _) (by rw [C4]; omega)
def f1n {j : Nat} (h : j <= xs.length) : (dlL xs w j).length = xs.length := by
 unfold dlL; rw [B7, H7]; have := c7n (w := w) h; omega
def f1o {j : Nat} (h : j < xs.length) : (dlL xs w j).getD j 0 = xs.getD j 0 := by
 have h1 := c7n (w := w) (O0 h)
 unfold dlL
 rw [B3, G7 h1, I7, B3, show (dlF xs w j).length + (j - (dlF xs w j).length) = j from by omega]
def f5b {j : Nat} (h : j < xs.length) (e : (!(xs.getD j 0 == w)) = true) : dlF xs w (j + 1) = dlF xs w j ++ [xs.getD j 0] := by
 unfold dlF
 have e' : xs[j] ≠ w := by simpa [B3, B2 h] using e
 rw [D9 h, L4]
 simp [B3, B2 h, e']
def e6a {j : Nat} (h : j < xs.length) (e : (!(xs.getD j 0 == w)) = false) : dlF xs w (j + 1) = dlF xs w j := by
 unfold dlF
 have e' : xs[j] = w := by simpa [B3, B2 h] using e
 rw [D9 h, L4]
 simp [e']
def g7c {j : Nat} (h : j < xs.length) (e : (!(xs.getD j 0 == w)) = true) : (dlL xs w j).set (dlF xs w j).length (xs.getD j 0) = dlL xs w (j + 1) := by
 have h1 := c7n (w := w) (O0 h)
 unfold dlL
 rw [f5b h e, G4 _ _ (B9 _), W0, G9 (by omega), List.set_cons_zero, B7, B6]
 rfl
def g7d {i : Nat} (h : ∀ x ∈ xs.take i, x ≠ w) (e : xs.getD i 0 = w) (hi : i < xs.length) : dlF xs w (i + 1) = xs.take i /\ dlL xs w (i + 1) = xs := by
 have h1 : dlF xs w (i + 1) = xs.take i := by
  rw [e6a hi (by rw [e]; simp)]
  exact R9.2 fun x hx => by simpa using h x hx
 refine ⟨h1, ?_⟩
 unfold dlL
 rw [h1, C4, J0 (O0 hi), E6]
def wr1 {i : Nat} (h : i <= 1000000) : wrap .i64 ((i : Int) + 1) = ((i + 1 : Nat) : Int) := by rw [<- Int.natCast_succ]; exact t6 (by omega)
end
def e6b : a7q.ok Tp 92 := Con.prove (c := a7q) EF Z0 (K0.c b0u) (H := h1o) (n := 4) fun (a : HL D a7q.ts) (hp : a7q.holds a) =>
 have hp : a.1.nodes.length <= 1000000 := hp
 bq (a1d a.1 != 0) (fun h1 => (by simp only [a7q, a4g, h1, B5] : some ([], ()) = some (a7q.ret a))) (fun h1 =>
 have hr : a7q.ret a = (a.1.nodes.filter fun x => !(x == a.2.1), ()) := by simp only [a7q, a4g, h1, B8]
 Nl.mk (xs := a.1.nodes) (fun h2 =>
  And.intro (⟨(0 : Nat), rfl, rfl, rfl, C0 _, fun x hx => by simp at hx⟩ : Ent (f1l a.1.nodes a.2.1) [SV.i IntKind.i64 (0 : Int)] [] []) (
  fun (i : Nat) (_ : i <= a.1.nodes.length /\ ∀ x ∈ a.1.nodes.take i, x ≠ a.2.1) =>
  (by rw [hr, h2]; rfl : some ([], ()) = some (a7q.ret a)))) (
 bN (Nat.ble ((0 + a.1.nodes.length) * m6 Tp 3) i5) (by rw [mb3]; exact D3 (by unfold i5; omega)) (
 And.intro (⟨(0 : Nat), rfl, rfl, rfl, C0 _, fun x hx => by simp at hx⟩ : Ent (f1l a.1.nodes a.2.1) [SV.i IntKind.i64 (0 : Int)] [] []) (
 fun (i : Nat) (hI : i <= a.1.nodes.length /\ ∀ x ∈ a.1.nodes.take i, x ≠ a.2.1) =>
 bq (decide ((i : Int) < (a.1.nodes.length : Int))) (fun h3 =>
  have hi : i < a.1.nodes.length := by have := A6 h3; omega
  bN (iX (i : Int) (a.1.nodes.length : Int)) (by simp; omega) (
  bq (a.1.nodes.getD i 0 == a.2.1) (fun h4 =>
   have h4 : a.1.nodes.getD i 0 = a.2.1 := by simpa using h4
   have h0 := g7d hI.2 h4 hi
   And.intro (⟨(i + 1 : Nat), by
     show [SV.own 0, SV.i IntKind.i64 (i : Int), SV.i IntKind.i64 (wrap IntKind.i64 ((i : Int) + 1))] = [SV.own 0, iv (dlF a.1.nodes a.2.1 (i + 1)).length, iv ((i + 1 : Nat) : Int)]; rw [h0.1, C4, J0 hI.1, wr1 (by omega)], by
     show _ = [HB.arr .int 3 (dlL a.1.nodes a.2.1 (i + 1))]; rw [h0.2], rfl, hi⟩ : Ent (f1m a.1.nodes a.2.1) [SV.own 0, SV.i IntKind.i64 (i : Int), SV.i IntKind.i64 (wrap IntKind.i64 ((i : Int) + 1))] [HB.arr .int 3 a.1.nodes] []) (
   fun (j : Nat) (hj : j <= a.1.nodes.length) =>
   have hl := f1n (w := a.2.1) hj; have hf := c7n (w := a.2.1) hj
   bq (decide ((j : Int) < ((dlL a.1.nodes a.2.1 j).length : Int))) (fun h6 =>
    have hj' : j < a.1.nodes.length := by have := A6 h6; omega
    have hg := f1o (w := a.2.1) hj'
    bN (iX (j : Int) ((dlL a.1.nodes a.2.1 j).length : Int)) (by simp; omega) (
    bq (!(dlL a.1.nodes a.2.1 j).getD j 0 == a.2.1) (fun h7 =>
     have h7 : (!(a.1.nodes.getD j 0 == a.2.1)) = true := by rw [<- hg]; exact h7
     bN (iX ((dlF a.1.nodes a.2.1 j).length : Int) ((dlL a.1.nodes a.2.1 j).length : Int)) (by simp; omega) (
     (⟨(j + 1 : Nat), by
      show _ = [SV.own 0, iv (dlF a.1.nodes a.2.1 (j + 1)).length, iv ((j + 1 : Nat) : Int)]; rw [f5b hj' h7, B7, wr1 (by omega), wr1 (by omega)]; rfl, by
      show _ = [HB.arr .int 3 (dlL a.1.nodes a.2.1 (j + 1))]; rw [<- g7c hj' h7]; exact congrArg (fun l => [HB.arr .int 3 l]) (congrArg _ hg), rfl, hj', by show a.1.nodes.length - (j + 1) < a.1.nodes.length - j; omega⟩ : Rnd (f1m a.1.nodes a.2.1) j [SV.own 0, SV.i IntKind.i64 (wrap IntKind.i64 (((dlF a.1.nodes a.2.1 j).length : Int) + 1)), SV.i IntKind.i64 (wrap IntKind.i64 ((j : Int) + 1))] [HB.arr .int 3 ((dlL a.1.nodes a.2.1 j).set (dlF a.1.nodes a.2.1 j).length ((dlL a.1.nodes a.2.1 j).getD j 0))] []))) (fun h7 =>
     have h7 : (!(a.1.nodes.getD j 0 == a.2.1)) = false := by rw [<- hg]; exact h7
     (⟨(j + 1 : Nat), by
      show _ = [SV.own 0, iv (dlF a.1.nodes a.2.1 (j + 1)).length, iv ((j + 1 : Nat) : Int)]; rw [e6a hj' h7, wr1 (by omega)], by
      show _ = [HB.arr .int 3 (dlL a.1.nodes a.2.1 (j + 1))]; unfold dlL; rw [e6a hj' h7], rfl, hj', by show a.1.nodes.length - (j + 1) < a.1.nodes.length - j; omega⟩ : Rnd (f1m a.1.nodes a.2.1) j [SV.own 0, SV.i IntKind.i64 ((dlF a.1.nodes a.2.1 j).length : Int), SV.i IntKind.i64 (wrap IntKind.i64 ((j : Int) + 1))] [HB.arr .int 3 (dlL a.1.nodes a.2.1 j)] [])))) (fun h6 =>
    have hj' : j = a.1.nodes.length := by have := A9 h6; omega
    bN (decide (0 <= ((dlF a.1.nodes a.2.1 j).length : Int)) && decide (((dlF a.1.nodes a.2.1 j).length : Int) <= ((dlL a.1.nodes a.2.1 j).length : Int))) (by simp; omega) (
    bN (Nat.ble (dlF a.1.nodes a.2.1 j).length (dlL a.1.nodes a.2.1 j).length) (D3 (by omega)) (
    bN (decide ((0 : Int) <= 0) && (decide (0 <= ((dlF a.1.nodes a.2.1 j).length : Int)) && decide (((dlF a.1.nodes a.2.1 j).length : Int) <= (((dlL a.1.nodes a.2.1 j).take (dlF a.1.nodes a.2.1 j).length ++ replicate ((dlL a.1.nodes a.2.1 j).length - (dlF a.1.nodes a.2.1 j).length) (0 : Int)).length : Int)))) (by simp; omega) (
    (by
     rw [hr]; have e : dlF a.1.nodes a.2.1 j = a.1.nodes.filter fun x => !(x == a.2.1) := by unfold dlF; rw [hj', D1]
     have e2 : (dlL a.1.nodes a.2.1 j).take (dlF a.1.nodes a.2.1 j).length = dlF a.1.nodes a.2.1 j := by unfold dlL; rw [K5]
     rw [e2, K5, e]; rfl : some (((dlL a.1.nodes a.2.1 j).take (dlF a.1.nodes a.2.1 j).length ++ replicate ((dlL a.1.nodes a.2.1 j).length - (dlF a.1.nodes a.2.1 j).length) (0 : Int)).take (dlF a.1.nodes a.2.1 j).length, ()) = some (a7q.ret a))))))))
   (fun h4 => (⟨(i + 1 : Nat), by
     show [SV.i IntKind.i64 (wrap IntKind.i64 ((i : Int) + 1))] = [iv ((i + 1 : Nat) : Int)]; rw [wr1 (by omega)], rfl, rfl, ⟨hi, fun x hx => by
     rw [D9 hi, D4] at hx; rcases hx with hx | hx
     ·exact hI.2 x hx
     ·rw [F3] at hx; subst hx; simpa [B3, B2 hi] using h4⟩, by show a.1.nodes.length - (i + 1) < a.1.nodes.length - i; omega⟩ : Rnd (f1l a.1.nodes a.2.1) i [SV.i IntKind.i64 (wrap IntKind.i64 ((i : Int) + 1))] [] []))))
 (fun h3 => (by
  rw [hr]; have hi : i = a.1.nodes.length := by have := A9 h3; omega
  have : (a.1.nodes.filter fun x => !(x == a.2.1)) = a.1.nodes := R9.2 fun x hx => by
   have := hI.2 x (by rw [hi, D1]; exact hx); simpa using this
  rw [this]; rfl : some (a.1.nodes, ()) = some (a7q.ret a)))))))
def f1p : e4f Tp 45 where
 nil := fun w => Go.Proofs.AnyM.slices_Sort_int_none Go.Proofs.Tryz.sortA none 0 w
 run := fun b off cap zs w hH hb hl => by
  refine (Go.Proofs.AnyM.slices_Sort_int Go.Proofs.Tryz.sortA b off cap zs w hH hb (by unfold i5 at hl; omega)).mono ?_
  rintro e w' ⟨rfl, n, os, rfl⟩; refine ⟨rfl, n, os, ?_⟩; have : (zs.mergeSort fun x y => decide (x <= y)) = a0e zs := c4s (M1 zs); rw [this]
abbrev Γk : Nat -> Option (Con D) := j6 Γc 92 a7q
def Kk : o8 EF Tp Γk Δc := Kc.c e6b
def Zk : ZF Tp D := Z0.side Kk
abbrev f5c (Δ : Nat -> Option (j8 D)) (H : Nat -> Nat -> Option (Hint D)) (n : Nat) : n3 D := f7s 45 3 (c1a 53 94 (a1a EF Zk Γk Δ H n))
def e6c {Δ : Nat -> Option (j8 D)} (h : o8 EF Tp Γk Δ) (H : Nat -> Nat -> Option (Hint D)) (n : Nat) : n4 Tp (f5c Δ H n) := f0o f1p (b0r b0s (o0 Zk h n))
def nx {κ : Type} {left : List κ} {a : Prop} {b : κ -> List κ -> Prop} (h0 : left = [] -> a) (h1 : ∀ x rest, (∃ l1 l2, left = l1 ++ x :: l2 /\ rest = l1 ++ l2) -> b x rest) : Nx left a b := ⟨h0, fun l1 x l2 h => h1 x (l1 ++ l2) ⟨l1, l2, h, rfl⟩⟩
def d0v : a0f := ⟨⟨0, 0, 0, [], [], []⟩, Dig.zero⟩
def d0w : Ack := ⟨0, Dig.zero⟩
abbrev kCr (k : KD) : a0n := k.1.1
abbrev kSf (k : KD) : Int := k.1.2.1
abbrev kGr (k : KD) : Int := k.1.2.2.1
abbrev kEp (k : KD) : Int := k.1.2.2.2.1
abbrev kCh (k : KD) : List (Int × a0f) := k.2.2.1
abbrev kAk (k : KD) : List (a0o × Ack) := k.2.2.2.1
abbrev kSn (k : KD) : List (Dig × List UInt8) := k.2.2.2.2.1
abbrev kMo (k : KD) : List (List UInt8 × Bool) := k.2.2.2.2.2.1
abbrev f9m (k : KD) (l : List (a0o × Ack)) : KD := (k.1, k.2.1, k.2.2.1, l, k.2.2.2.2)
abbrev c1v (k : KD) (l : List (Int × a0f)) : KD := (k.1, k.2.1, l, k.2.2.2)
abbrev a2f (k : KD) (b : List UInt8) : KD := (k.1, (wrap .i64 (k.2.1.1 + 1), ()), k.2.2.1, k.2.2.2.1, bkS b (kSn k), bkM b (kSn k) (kMo k), ())
abbrev sdO (l : List (Int × a0f)) (x : Int) : Option a0f := a0z (E := D) .int (.st 8) l x
abbrev sd (l : List (Int × a0f)) (x : Int) : a0f := (sdO l x).getD d0v
abbrev akG (l : List (a0o × Ack)) (p : a0o) : Ack := (a0z (E := D) (.st 10) (.st 9) l p).getD d0w
abbrev okC (c : i4) : Prop := c.mz.length <= 1000000 /\ c.p.length <= 1000000 /\ c.q.length <= 1000000
def a1y (c : a0n) : Int := (b6t (c, ())).1
structure okK (k : KD) : Prop where
  nodes : (kCr k).nodes.length <= 1000000
  s1 : 1 <= a1y (kCr k)
  s2 : a1y (kCr k) <= 1000000
  len : (kCh k).length <= 1000
  ch : ∀ p ∈ kCh k, okC p.2.change /\ -1000000 <= p.1 /\ p.1 <= 1000000
def d6u {l : List (Int × a0f)} {x : Int} {y : a0f} (h : sdO l x = some y) : (x, y) ∈ l := by
 replace h : @a1q Int (Ty.dec D .int) a0f l x = some y := h
 induction l with
 | nil => cases h
 | cons p r ih =>
  unfold a1q at h; by_cases e : p.1 = x
  ·rw [F8 e] at h; have : p = (x, y) := Prod.ext e (I9 h); rw [this]; exact E7
  ·rw [F7 e] at h; exact D7 _ (ih h)
def d4c {k : KD} (h : okK k) (x : Int) : okC (sd (kCh k) x).change := by
 unfold sd
 cases e : sdO (kCh k) x with
 | none => exact ⟨by show 0 <= _; omega, by show 0 <= _; omega, by show 0 <= _; omega⟩
 | some y => exact (h.ch _ (d6u e)).1
def a1l (k : KD) (n : i8) : (Int × Unit) × KD :=
 bif decide (n.view < (akG (kAk k) ⟨n.sq, n.node⟩).view) then ((190, ()), k)
 else bif (bif (akG (kAk k) ⟨n.sq, n.node⟩).view == n.view then !((akG (kAk k) ⟨n.sq, n.node⟩).view == n.view && (decide ((akG (kAk k) ⟨n.sq, n.node⟩).dig = n.dig) && true)) else false) then ((151, ()), k)
 else ((0, ()), f9m k (m9 (E := D) (.st 10) (.st 9) (kAk k) ⟨n.sq, n.node⟩ ⟨n.view, n.dig⟩))
def a6b : j8 D := { ash := [.nm 0, .dat (.st 7)], es := KS, rsh := [.dat .int], pes := KS, post := fun a k => a1l k a.1 }
def d0x : a6b.ok EF Tp 41 := j8.prove (c := a6b) EF Zk Kk (H := fun _ _ _ _ => none) (n := 1) fun (a : CL D a6b.ash) (k : KD) (_ : a6b.holds a k) =>
 b2n (br_ (fun h1 => a6b.lf a k (ct h1 (rfl))) (fun h1 => br_ (fun h2 => a6b.lf a k (cf h1 (ct h2 (rfl)))) (fun h2 => a6b.lf a k (cf h1 (cf h2 (rfl))))))
def c5i : j8 D := { ash := [.nm 0, .dat (.st 3)], es := KS, rsh := [.dat (.st 8), .dat .bool], pes := KS, pre := some (fun a _ => isW a.1), post := fun a k => (((⟨a.1, a5c (j0 a.1)⟩ : a0f), true, ()), a2f k (j0 a.1)) }
def b5d {c : i4} (h : isW c) : okC c := by obtain ⟨i, rfl, _⟩ := h; exact ⟨by show 1 <= _; omega, by show 0 <= _; omega, by show 1 <= _; omega⟩
def d6v {c : i4} (h : isW c) : (j0 c).length <= 65536 := by obtain ⟨i, rfl, _⟩ := h; rw [<- f8v]; have := l11 i.1 i.2.1 i.2.2; omega
def f9n : c5i.ok EF Tp 42 := j8.prove (c := c5i) EF Zk Kk (H := fun _ _ _ _ => none) (n := 3) fun (a : CL D c5i.ash) (k : KD) (hp : c5i.holds a k) =>
 have hp : isW a.1 := hp
 have hc := b5d hp
 pQ (∃ i : Int × Int × UInt8, (a.1, ()) = (a0g i.1 i.2.1 i.2.2, ()) /\ b5b i) (by obtain ⟨i, h1, h2⟩ := hp; exact ⟨i, by rw [h1], h2⟩) (
 pQ ((j0 a.1).length <= 65536) (d6v hp) (
 pQ (a.1.mz.length <= 1000000) hc.1 (
 pQ (a.1.p.length <= 1000000) hc.2.1 (
 pQ (a.1.q.length <= 1000000) hc.2.2 (
 (rfl : some (((⟨a.1, a5c (j0 a.1)⟩ : a0f), true, ()), a2f k (j0 a.1)) = some (c5i.post a k)))))))
def c1w : j8 D := { ash := [.nm 0, .dat .int], es := KS, rsh := [.dat (.st 3), .dat .bool], pes := KS, pre := some (fun _ k => okK k), post := fun a k => (((sd (kCh k) a.1).change, (sdO (kCh k) a.1).isSome, ()), k) }
def e6d : c1w.looks EF Tp 24 := j8.proveL (c := c1w) EF Zk (H := fun _ _ _ _ => none) (call := fun _ _ => a1a EF Zk Γk Δc (fun _ _ => none) 3) (fun _ _ => o0 Zk Kk 3) fun (a : CL D c1w.ash) (k : KD) (hp : c1w.holds a k) =>
 have hc := d4c hp a.1
 pQ ((sd (kCh k) a.1).change.mz.length <= 1000000) hc.1 (
 pQ ((sd (kCh k) a.1).change.p.length <= 1000000) hc.2.1 (
 pQ ((sd (kCh k) a.1).change.q.length <= 1000000) hc.2.2 (
 (rfl : some ((sd (kCh k) a.1).change, (sdO (kCh k) a.1).isSome, ()) = some (c1w.post a k).1))))
def a0t (k : KD) : List Int := (kCh k).map fun p : Int × a0f => p.1
def bhC (k : KD) (v : Int) (xs : List Int) : Nat := xs.countP fun x => decide (v <= (sd (kCh k) x).change.view)
def e6e (k : KD) (v : Int) : LH D := ⟨Nat × List Int, [4], fun i => [iv i.1], fun i => i.1 + bhC k v i.2 = bhC k v (a0t k), fun i => i.2.length, [], fun _ => [], [7], fun i => [.itr 2 2 3 .int i.2]⟩
def b5e : j8 D := { ash := [.nm 0, .dat .int], es := KS, rsh := [.dat .int], pes := KS, pre := some (fun _ k => okK k), post := fun a k => (((bhC k a.1 (a0t k) : Nat), ()), k) }
def f9o {k : KD} (h : okK k) (v : Int) : bhC k v (a0t k) <= 1000 := D5 O7 (by unfold a0t; rw [C5]; exact h.len)
def d6w {k : KD} {v x : Int} {l1 l2 : List Int} : bhC k v (l1 ++ x :: l2) = bhC k v (l1 ++ l2) + (bif decide (v <= (sd (kCh k) x).change.view) then 1 else 0) := by
 unfold bhC
 rw [M3, M7, M3]
 cases decide (v <= (sd (kCh k) x).change.view) <;> simp <;> omega
def e6f : b5e.looks EF Tp 25 := j8.proveL (c := b5e) EF Zk (H := fun a k f r => match f, r with | 25, 4 => some (.inv (e6e k a.1)) | _, _ => none) (call := fun a k => a1a EF Zk Γk Δc (fun f r => match f, r with | 25, 4 => some (.inv (e6e k a.1)) | _, _ => none) 1) (fun _ _ => o0 Zk Kk 1) fun (a : CL D b5e.ash) (k : KD) (hp : b5e.holds a k) =>
 have hp : okK k := hp
 have hb := f9o hp a.1
 And.intro (⟨((0 : Nat), a0t k), rfl, rfl, rfl, F2 _⟩ : Ent (e6e k a.1) [SV.i IntKind.i64 (0 : Int)] [] [HB.itr 2 2 3 .int (a0t k)]) (
 fun (i : Nat × List Int) (hI : i.1 + bhC k a.1 i.2 = bhC k a.1 (a0t k)) =>
 nx (left := i.2) (fun h2 => (by
   rw [h2] at hI; have : i.1 = bhC k a.1 (a0t k) := by rw [<- hI]; rfl
   rw [this]; rfl : some ((i.1 : Int), ()) = some (b5e.post a k).1))
  (fun (x : Int) (rest : List Int) hr =>
   bq (decide (a.1 <= (sd (kCh k) x).change.view)) (fun h3 => (⟨(i.1 + 1, rest), by
    show [SV.i IntKind.i64 (wrap .i64 ((i.1 : Int) + 1))] = [iv ((i.1 + 1 : Nat) : Int)]; rw [wr1 (by omega)], rfl, rfl, by
    obtain ⟨l1, l2, e1, e2⟩ := hr; rw [e1, d6w, h3] at hI; show i.1 + 1 + bhC k a.1 rest = _; rw [e2, <- hI]; simp only [B5]; omega, by
    obtain ⟨l1, l2, e1, e2⟩ := hr; show rest.length < i.2.length; rw [e1, e2]; simp⟩ : Rnd (e6e k a.1) i [SV.i IntKind.i64 (wrap .i64 ((i.1 : Int) + 1))] [] [HB.itr 2 2 3 .int rest]))
   (fun h3 => (⟨(i.1, rest), rfl, rfl, rfl, by
    obtain ⟨l1, l2, e1, e2⟩ := hr; rw [e1, d6w, h3] at hI; show i.1 + bhC k a.1 rest = _; rw [e2, <- hI]; simp only [B8]; omega, by
    obtain ⟨l1, l2, e1, e2⟩ := hr; show rest.length < i.2.length; rw [e1, e2]; simp⟩ : Rnd (e6e k a.1) i [SV.i IntKind.i64 (i.1 : Int)] [] [HB.itr 2 2 3 .int rest]))))
def jnV (k : KD) (xs : List Int) : List Int := (xs.filter fun x => x != kSf k).map fun x => (sd (kCh k) x).change.view
def e6g (k : KD) : LH D := ⟨List Int × List Int, [6], fun _ => [.own 0], fun i => (i.1 ++ jnV k i.2).Perm (jnV k (a0t k)), fun i => i.2.length, [(.sl 6, .int, 3)], fun i => [.arr .int 3 i.1], [7], fun i => [.itr 2 2 3 .int i.2]⟩
def jnR (k : KD) : List Int := a0e (jnV k (a0t k))
def jnI (k : KD) : Int := ((jnR k).length : Int) - a1y (kCr k)
def jnP (k : KD) (v : Int) : Int × Bool × Unit := bif decide (jnI k < 0) then (0, false, ()) else bif decide ((jnR k).getD (jnI k).toNat 0 <= v) then (0, false, ()) else ((jnR k).getD (jnI k).toNat 0, true, ())
def b3q : j8 D := { ash := [.nm 0, .dat .int], es := KS, rsh := [.dat .int, .dat .bool], pes := KS, pre := some (fun _ k => okK k), post := fun a k => (jnP k a.1, k) }
def f9p {k : KD} (h : okK k) : (jnV k (a0t k)).length <= 1000 := by
 unfold jnV; rw [C5]
 exact D5 (O6 _ _) (by unfold a0t; rw [C5]; exact h.len)
def d6x {k : KD} {x : Int} {l1 l2 : List Int} : jnV k (l1 ++ x :: l2) = jnV k l1 ++ ((bif x != kSf k then [(sd (kCh k) x).change.view] else []) ++ jnV k l2) := by
 unfold jnV
 rw [L4, K9, F5]
 cases x != kSf k <;> simp
def d6y {k : KD} {l1 l2 : List Int} : jnV k (l1 ++ l2) = jnV k l1 ++ jnV k l2 := by
 unfold jnV
 rw [L4, F5]
def f5d : b3q.looks EF Tp 15 := j8.proveL (c := b3q) EF Zk (H := fun _ k f r => match f, r with | 15, 5 => some (.inv (e6g k)) | _, _ => none) (call := fun _ k => f5c Δc (fun f r => match f, r with | 15, 5 => some (.inv (e6g k)) | _, _ => none) 2) (fun _ k => e6c Kk _ 2) fun (a : CL D b3q.ash) (k : KD) (hp : b3q.holds a k) =>
 have hp : okK k := hp
 have hb := f9p hp
 And.intro (⟨(([] : List Int), a0t k), rfl, rfl, rfl, M1 _⟩ : Ent (e6g k) [SV.own 0] [HB.arr .int 3 ([] : List Int)] [HB.itr 2 2 3 .int (a0t k)]) (
 fun (i : List Int × List Int) (hI : (i.1 ++ jnV k i.2).Perm (jnV k (a0t k))) =>
 nx (left := i.2) (fun h2 =>
  have hR : a0e i.1 = jnR k := e3y (by rw [h2] at hI; simpa [jnV] using hI); have hl : (a0e i.1).length <= 1000 := by rw [hR, jnR, a6a]; exact hb
  have hw : wrap .i64 (((a0e i.1).length : Int) - a1y (kCr k)) = jnI k := by
   rw [jnI, <- hR]; exact IntWalk.i64_in _ (by have := hp.s1; have := hp.s2; omega)
  bq (decide (wrap .i64 (((a0e i.1).length : Int) - a1y (kCr k)) < (0 : Int))) (fun h3 => (by
    rw [hw] at h3; simp only [b3q, jnP, h3, B5] : some ((0 : Int), false, ()) = some (b3q.post a k).1))
  (fun h3 =>
   have h3' : ¬ jnI k < 0 := by rw [hw] at h3; exact A9 h3
   have hi : (decide (0 <= wrap .i64 (((a0e i.1).length : Int) - a1y (kCr k))) && decide (wrap .i64 (((a0e i.1).length : Int) - a1y (kCr k)) < ((a0e i.1).length : Int))) = true := by
    rw [hw, hR]; have := hp.s1; have e : jnI k < ((jnR k).length : Int) := by unfold jnI; omega
    simp [e]; omega
   bN (iX (wrap .i64 (((a0e i.1).length : Int) - a1y (kCr k))) ((a0e i.1).length : Int)) hi (
   bq (decide ((a0e i.1).getD (wrap .i64 (((a0e i.1).length : Int) - a1y (kCr k))).toNat (0 : Int) <= a.1)) (fun h4 => (by
    rw [hw] at h3 h4; rw [hR] at h4; simp only [b3q, jnP, h3, h4, B5, B8] : some ((0 : Int), false, ()) = some (b3q.post a k).1))
   (fun h4 =>
    bN (iX (wrap .i64 (((a0e i.1).length : Int) - a1y (kCr k))) ((a0e i.1).length : Int)) hi (
    (by
     have e : (b3q.post a k).1 = ((jnR k).getD (jnI k).toNat 0, true, ()) := by
      rw [hw] at h3 h4; rw [hR] at h4; simp only [b3q, jnP, h3, h4, B8]
     rw [e, hw, hR]; rfl : some (((a0e i.1).getD (wrap .i64 (((a0e i.1).length : Int) - a1y (kCr k))).toNat (0 : Int)), true, ()) = some (b3q.post a k).1))))))
  (fun (x : Int) (rest : List Int) hr =>
   bq (x != kSf k) (fun h3 =>
    have hn : (i.1 ++ [(sd (kCh k) x).change.view] ++ jnV k rest).Perm (jnV k (a0t k)) := by
     obtain ⟨l1, l2, e1, e2⟩ := hr; refine List.Perm.trans ?_ hI; rw [e1, e2, d6x, h3, d6y, B5, B6]; exact List.Perm.append_left _ (by rw [<- B6, <- B6]; exact W7 _ List.perm_append_comm)
    bN (Nat.ble ((i.1.length + 1) * m6 Tp 3) i5) (by
     have := hn.length_eq; rw [B7, B7, E9] at this; rw [mb3]; exact D3 (by unfold i5; omega)) (
    (⟨(i.1 ++ [(sd (kCh k) x).change.view], rest), rfl, rfl, rfl, hn, by
     obtain ⟨l1, l2, e1, e2⟩ := hr; show rest.length < i.2.length; rw [e1, e2]; simp⟩ : Rnd (e6g k) i [SV.own 0] [HB.arr .int 3 (i.1 ++ [(sd (kCh k) x).change.view])] [HB.itr 2 2 3 .int rest])))
   (fun h3 => (⟨(i.1, rest), rfl, rfl, rfl, by
     obtain ⟨l1, l2, e1, e2⟩ := hr; rw [e1, d6x, h3] at hI; show (i.1 ++ jnV k rest).Perm _; rw [e2, d6y]; exact hI, by
     obtain ⟨l1, l2, e1, e2⟩ := hr; show rest.length < i.2.length; rw [e1, e2]; simp⟩ : Rnd (e6g k) i [SV.own 0] [HB.arr .int 3 i.1] [HB.itr 2 2 3 .int rest]))))
def hrB (k : KD) (s : a0f) (wo : Int) (x : Int) : Bool := bif x == wo then false else bif x == kSf k then (bif (sdO (kCh k) s.change.node).isSome then dq (α := i4) (sd (kCh k) s.change.node).change s.change else false)
 else (akG (kAk k) ⟨x, s.change.node⟩).view == s.change.view && (decide ((akG (kAk k) ⟨x, s.change.node⟩).dig = s.dig) && true)
def hrN (k : KD) (s : a0f) (wo : Int) : Nat := (a4g (kCr k) s.change.node).countP (hrB k s wo)
def e6h (k : KD) (s : a0f) (wo : Int) : LH D := ⟨Nat × Nat, [6, 20], fun i => [iv i.1, iv i.2], fun i => i.2 <= (a4g (kCr k) s.change.node).length /\ i.1 = ((a4g (kCr k) s.change.node).take i.2).countP (hrB k s wo), fun i => (a4g (kCr k) s.change.node).length - i.2, [], fun _ => [], [], fun _ => []⟩
def b7y : j8 D := { ash := [.nm 0, .dat (.st 8), .dat .int], es := KS, rsh := [.dat .int], pes := KS, pre := some (fun _ k => okK k), post := fun a k => (((hrN k a.1 a.2.1 : Nat), ()), k) }
def f1q {k : KD} (h : okK k) (x : Int) : (a4g (kCr k) x).length <= 1000000 := by
 unfold a4g
 cases a1d (kCr k) != 0 with
 | true => simp
 | false => exact D5 (O6 _ _) h.nodes
def h1p {k : KD} {s : a0f} {wo : Int} {i : Nat × Nat} {os : List Int} (hi : i.2 < os.length) (hI : i.1 = (os.take i.2).countP (hrB k s wo)) (e : hrB k s wo (os.getD i.2 0) = true) : i.1 + 1 = (os.take (i.2 + 1)).countP (hrB k s wo) := by
 rw [D9 hi, M3, <- hI]
 rw [B3, B2 hi, O4] at e
 simp [e]
def h1q {k : KD} {s : a0f} {wo : Int} {i : Nat × Nat} {os : List Int} (hi : i.2 < os.length) (hI : i.1 = (os.take i.2).countP (hrB k s wo)) (e : hrB k s wo (os.getD i.2 0) = false) : i.1 = (os.take (i.2 + 1)).countP (hrB k s wo) := by
 rw [D9 hi, M3, <- hI]
 rw [B3, B2 hi, O4] at e
 simp [e]
def e6i : b7y.looks EF Tp 51 := j8.proveL (c := b7y) EF Zk (H := fun a k f r => match f, r with | 51, 2 => some (.inv (e6h k a.1 a.2.1)) | _, _ => none) (call := fun a k => a1a EF Zk Γk Δc (fun f r => match f, r with | 51, 2 => some (.inv (e6h k a.1 a.2.1)) | _, _ => none) 3) (fun _ _ => o0 Zk Kk 3) fun (a : CL D b7y.ash) (k : KD) (hp : b7y.holds a k) =>
 have hp : okK k := hp
 have hl := f1q hp a.1.change.node
 pQ ((kCr k).nodes.length <= 1000000) hp.nodes (
 brL fun _ : (a4g (kCr k) a.1.change.node).length <= i5 =>
 And.intro (⟨((0 : Nat), (0 : Nat)), rfl, rfl, rfl, C0 _, rfl⟩ : Ent (e6h k a.1 a.2.1) [SV.i IntKind.i64 (0 : Int), SV.i IntKind.i64 (0 : Int)] [] []) (
 fun (i : Nat × Nat) (hI : i.2 <= (a4g (kCr k) a.1.change.node).length /\ i.1 = ((a4g (kCr k) a.1.change.node).take i.2).countP (hrB k a.1 a.2.1)) =>
 have h1 : i.1 <= 1000000 := by rw [hI.2]; exact D5 O7 (by rw [C4]; omega)
 bq (decide ((i.2 : Int) < ((a4g (kCr k) a.1.change.node).length : Int))) (fun h3 =>
  have hi : i.2 < (a4g (kCr k) a.1.change.node).length := by have := A6 h3; omega
  have up (e : hrB k a.1 a.2.1 ((a4g (kCr k) a.1.change.node).getD i.2 0) = true) : Rnd (e6h k a.1 a.2.1) i [SV.i IntKind.i64 (wrap .i64 ((i.1 : Int) + 1)), SV.i IntKind.i64 (wrap .i64 ((i.2 : Int) + 1))] [] [] := ⟨(i.1 + 1, i.2 + 1), by
    show _ = [iv ((i.1 + 1 : Nat) : Int), iv ((i.2 + 1 : Nat) : Int)]; rw [wr1 (by omega), wr1 (by omega)], rfl, rfl, ⟨hi, h1p hi hI.2 e⟩, by show (a4g (kCr k) a.1.change.node).length - (i.2 + 1) < (a4g (kCr k) a.1.change.node).length - i.2; omega⟩
  have st (e : hrB k a.1 a.2.1 ((a4g (kCr k) a.1.change.node).getD i.2 0) = false) : Rnd (e6h k a.1 a.2.1) i [SV.i IntKind.i64 (i.1 : Int), SV.i IntKind.i64 (wrap .i64 ((i.2 : Int) + 1))] [] [] := ⟨(i.1, i.2 + 1), by
    show _ = [iv (i.1 : Int), iv ((i.2 + 1 : Nat) : Int)]; rw [wr1 (by omega)], rfl, rfl, ⟨hi, h1q hi hI.2 e⟩, by show (a4g (kCr k) a.1.change.node).length - (i.2 + 1) < (a4g (kCr k) a.1.change.node).length - i.2; omega⟩
  bN (iX (i.2 : Int) ((a4g (kCr k) a.1.change.node).length : Int)) (by simp; omega) (
  bq ((a4g (kCr k) a.1.change.node).getD i.2 (0 : Int) == a.2.1) (fun h4 => st (by unfold hrB; rw [h4]; rfl)) (fun h4 =>
  bq ((a4g (kCr k) a.1.change.node).getD i.2 (0 : Int) == kSf k) (fun h5 =>
   bq (bif (sdO (kCh k) a.1.change.node).isSome then dq (α := i4) (sd (kCh k) a.1.change.node).change a.1.change else false) (fun h6 => up (by unfold hrB; rw [h4, h5, h6]; rfl)) (fun h6 => st (by unfold hrB; rw [h4, h5, h6]; rfl)))
  (fun h5 =>
   bq ((akG (kAk k) ⟨(a4g (kCr k) a.1.change.node).getD i.2 (0 : Int), a.1.change.node⟩).view == a.1.change.view && (decide ((akG (kAk k) ⟨(a4g (kCr k) a.1.change.node).getD i.2 (0 : Int), a.1.change.node⟩).dig = a.1.dig) && true)) (fun h6 => up (by unfold hrB; rw [h4, h5, h6]; rfl)) (fun h6 => st (by unfold hrB; rw [h4, h5, h6]; rfl))))))
 (fun h3 => (by
  have hi : i.2 = (a4g (kCr k) a.1.change.node).length := by have := A9 h3; omega
  have e : i.1 = hrN k a.1 a.2.1 := by rw [hI.2, hi, D1]; rfl
  rw [e]; rfl : some ((i.1 : Int), ()) = some (b7y.post a k).1))))
abbrev Δk : Nat -> Option (j8 D) := a0h (a0h Δc 42 c5i) 41 a6b
def Kk2 : o8 EF Tp Γk Δk := (Kk.o f9n).o d0x
abbrev Λh : Nat -> Option (j8 D) := a0h (fun _ => none) 51 b7y
def Lh : a1j EF Tp Λh := a1j.nil.o e6i
abbrev d0y (H : Nat -> Nat -> Option (Hint D)) (n : Nat) : n3 D := c1a 53 94 (a5m EF Zk Λh Γk Δk H n)
def b5f (H : Nat -> Nat -> Option (Hint D)) (n : Nat) : n4 Tp (d0y H n) := b0r b0s (a1t Lh Kk2 n)
def b6y (c : a0n) (x : Int) : Bool := (c5c (c, x, ())).1
def b3r : i4 := ⟨0, 0, 0, [], [], []⟩
def f1r : a0y := ⟨0, [], 0, []⟩
abbrev dgS (c : i4) : a0f := ⟨c, a5c (j0 c)⟩
def a3b (k : KD) (s : a0f) : i8 := ⟨8, kSf k, kGr k, kEp k, s.change.view, 0, s.dig, [], f1r, 0, s.change.node, b3r, [], [], 0, 0, [], [], []⟩
def b5g (k : KD) (c : i4) : i8 := ⟨7, kSf k, kGr k, kEp k, 0, 0, Dig.zero, [], f1r, 0, 0, c, [], [], 0, 0, [], [], []⟩
def f1s {k : KD} (h : okK k) (b : List UInt8) : okK (a2f k b) := ⟨h.nodes, h.s1, h.s2, h.len, h.ch⟩
def a9y (k : KD) (c : i4) : Bool := bif (bif (sdO (kCh k) c.node).isSome then dq (α := i4) (sd (kCh k) c.node).change c else false) then true else decide (a1y (kCr k) <= (hrN k (dgS c) 0 : Int))
def c3o (k : KD) (c : i4) : (Bool × Unit) × KD := bif !b6y (kCr k) c.node then ((false, ()), k) else ((a9y k c, ()), a2f k (j0 c))
def a9t : j8 D := { ash := [.nm 0, .dat (.st 3)], es := KS, rsh := [.dat .bool], pes := KS, pre := some (fun a k => isW a.1 /\ okK k), post := fun a k => c3o k a.1 }
def f9q : a9t.ok EF Tp 20 := j8.proveH (c := a9t) EF Zk (H := fun _ _ _ _ => none) (call := fun _ _ => d0y (fun _ _ => none) 3) (fun _ _ => b5f _ 3) fun (a : CL D a9t.ash) (k : KD) (hp : a9t.holds a k) =>
 have hp : isW a.1 /\ okK k := hp
 bq (!b6y (kCr k) a.1.node) (fun h1 => (by simp only [a9t, c3o, h1, B5] : some ((false, ()), k) = some (a9t.post a k))) (fun h1 =>
 pQ (isW a.1) hp.1 (
 have g2 := f1s hp.2 (j0 a.1)
 have e (b : Bool) (hb : a9y k a.1 = b) : some ((b, ()), a2f k (j0 a.1)) = some (a9t.post a k) := by simp only [a9t, c3o, h1, B8, hb]
 bq ((sdO (kCh k) a.1.node).isSome) (fun h2 =>
  bq (dq (α := i4) (sd (kCh k) a.1.node).change a.1) (fun h3 =>
   have t : some ((true, ()), a2f k (j0 a.1)) = some (a9t.post a k) := e true (by unfold a9y; rw [h2, h3]; rfl)
   And.intro t (And.intro t (b2n t)))
  (fun h3 => pQ (okK (a2f k (j0 a.1))) g2 (
   (e _ (by unfold a9y; rw [h2, h3]; rfl) : some ((decide (a1y (kCr k) <= (hrN k (dgS a.1) 0 : Int)), ()), a2f k (j0 a.1)) = some (a9t.post a k)))))
 (fun h2 => b2n (pQ (okK (a2f k (j0 a.1))) g2 (
   (e _ (by unfold a9y; rw [h2]; rfl) : some ((decide (a1y (kCr k) <= (hrN k (dgS a.1) 0 : Int)), ()), a2f k (j0 a.1)) = some (a9t.post a k)))))))
def lvP (k : KD) (c : i4) : (List i8 × Int × Unit) × KD := bif c.node != kSf k then (([], 2, ()), a2f k (j0 c)) else bif decide (c.view <= (sd (kCh k) (kSf k)).change.view) then (([], 190, ()), a2f k (j0 c))
 else (([b5g k c], 0, ()), c1v (a2f k (j0 c)) (m9 (E := D) .int (.st 8) (kCh k) (kSf k) (dgS c)))
def c1x : j8 D := { ash := [.nm 0, .dat (.st 3)], es := KS, rsh := [.dat (.sl (.st 7)), .dat .int], pes := KS, pre := some (fun a _ => isW a.1), post := fun a k => lvP k a.1 }
def g7e : c1x.ok EF Tp 26 := j8.proveH (c := c1x) EF Zk (H := fun _ _ _ _ => none) (call := fun _ _ => d0y (fun _ _ => none) 3) (fun _ _ => b5f _ 3) fun (a : CL D c1x.ash) (k : KD) (hp : c1x.holds a k) =>
 have hp : isW a.1 := hp
 have hc := b5d hp
 pQ (isW a.1) hp (
 bq (a.1.node != kSf k) (fun h1 => (by simp only [c1x, lvP, h1, B5] : some (([], (2 : Int), ()), a2f k (j0 a.1)) = some (c1x.post a k))) (fun h1 =>
 bq (decide (a.1.view <= (sd (kCh k) (kSf k)).change.view)) (fun h2 => (by simp only [c1x, lvP, h1, h2, B5, B8] : some (([], (190 : Int), ()), a2f k (j0 a.1)) = some (c1x.post a k))) (fun h2 =>
 pQ (a.1.mz.length <= 1000000) hc.1 (
 pQ (a.1.p.length <= 1000000) hc.2.1 (
 pQ (a.1.q.length <= 1000000) hc.2.2 (
 (by simp only [c1x, lvP, h1, h2, B8] : some (([b5g k a.1], (0 : Int), ()), c1v (a2f k (j0 a.1)) (m9 (E := D) .int (.st 8) (kCh k) (kSf k) (dgS a.1))) = some (c1x.post a k))))))))
def a8o (k : KD) (n : i8) : (List i8 × Int × Unit) × KD :=
 bif decide (n.change.view < (sd (kCh k) n.sq).change.view) then (([], 190, ()), a2f k (j0 n.change))
 else bif (bif (sd (kCh k) n.sq).change.view == n.change.view then !dq (α := i4) (sd (kCh k) n.sq).change n.change else false) then (([], 151, ()), a2f k (j0 n.change))
 else bif (sd (kCh k) n.sq).change.view == n.change.view then (([], 0, ()), a2f k (j0 n.change))
 else (([a3b k (dgS n.change)], 0, ()), c1v (a2f k (j0 n.change)) (m9 (E := D) .int (.st 8) (kCh k) n.sq (dgS n.change)))
def a4d (k : KD) (n : i8) : (List i8 × Int × Unit) × KD :=
 bif (bif !(n.kind == 8) then n.kind != 7 else false) then (([], 2, ()), k)
 else bif n.group != kGr k then (([], 171, ()), k)
 else bif n.epoch != kEp k then (([], 171, ()), k)
 else bif !b6y (kCr k) n.sq then (([], 110, ()), k)
 else bif n.sq == kSf k then (([], 110, ()), k)
 else bif n.kind == 8 then (bif !b6y (kCr k) n.node then (([], 110, ()), k) else (([], (a1l k n).1.1, ()), (a1l k n).2))
 else a8o k n
def a5o : j8 D := { ash := [.nm 0, .dat (.st 7)], es := KS, rsh := [.dat (.sl (.st 7)), .dat .int], pes := KS, pre := some (fun a _ => b5c a.1), post := fun a k => a4d k a.1 }
def f9r {n : i8} (h : b5c n) (hk : (n.kind == 8) = false) : isW n.change := by
 rcases h with ⟨i, rfl, h1, h2⟩ | ⟨i, rfl, _⟩
 ·exact ⟨((i.1 + 1 : Nat), (i.2.1 + 1 : Nat), i.2.2), rfl, by show (1 : Int) <= (i.1 + 1 : Nat); omega, by show ((i.1 + 1 : Nat) : Int) <= 28; omega, by show (1 : Int) <= (i.2.1 + 1 : Nat); omega, by show ((i.2.1 + 1 : Nat) : Int) <= 255; omega⟩
 ·cases hk
def g7f : a5o.ok EF Tp 12 := j8.proveH (c := a5o) EF Zk (H := fun _ _ _ _ => none) (call := fun _ _ => d0y (fun _ _ => none) 3) (fun _ _ => b5f _ 3) fun (a : CL D a5o.ash) (k : KD) (hp : a5o.holds a k) =>
 have hp : b5c a.1 := hp
 bq (bif !(a.1.kind == 8) then a.1.kind != 7 else false) (fun h1 => (by simp only [a5o, a4d, h1, B5] : some (([], (2 : Int), ()), k) = some (a5o.post a k))) (fun h1 =>
 pQ (b5c a.1) hp (
 bq (a.1.group != kGr k) (fun h2 =>
  have t : some (([], (171 : Int), ()), k) = some (a5o.post a k) := by simp only [a5o, a4d, h1, h2, B5, B8]
  And.intro t (And.intro t (b2n t))) (fun h2 =>
 bq (a.1.epoch != kEp k) (fun h3 => (by simp only [a5o, a4d, h1, h2, h3, B5, B8] : some (([], (171 : Int), ()), k) = some (a5o.post a k))) (fun h3 =>
 bq (!b6y (kCr k) a.1.sq) (fun h4 =>
  have t : some (([], (110 : Int), ()), k) = some (a5o.post a k) := by simp only [a5o, a4d, h1, h2, h3, h4, B5, B8]
  And.intro t (And.intro t (b2n t))) (fun h4 =>
 bq (a.1.sq == kSf k) (fun h5 => (by simp only [a5o, a4d, h1, h2, h3, h4, h5, B5, B8] : some (([], (110 : Int), ()), k) = some (a5o.post a k))) (fun h5 =>
 bq (a.1.kind == 8) (fun h6 =>
  bq (!b6y (kCr k) a.1.node) (fun h7 => (by simp only [a5o, a4d, h1]; simp only [h2, h3, h4, h5, h6, h7, B5, B8] : some (([], (110 : Int), ()), k) = some (a5o.post a k))) (fun h7 =>
   (by simp only [a5o, a4d, h1]; simp only [h2, h3, h4, h5, h6, h7, B5, B8] : some (([], (a1l k a.1).1.1, ()), (a1l k a.1).2) = some (a5o.post a k))))
 (fun h6 =>
  have e : a5o.post a k = a8o k a.1 := by simp only [a5o, a4d, h1]; simp only [h2, h3, h4, h5, h6, B8]
  have X := pQ (isW a.1.change) (f9r hp h6) (
   bq (decide (a.1.change.view < (sd (kCh k) a.1.sq).change.view)) (fun h7 => (by rw [e, a8o, h7]; rfl : some (([], (190 : Int), ()), a2f k (j0 a.1.change)) = some (a5o.post a k))) (fun h7 =>
   bq (bif (sd (kCh k) a.1.sq).change.view == a.1.change.view then !dq (α := i4) (sd (kCh k) a.1.sq).change a.1.change else false) (fun h8 => (by rw [e, a8o, h7, h8]; rfl : some (([], (151 : Int), ()), a2f k (j0 a.1.change)) = some (a5o.post a k))) (fun h8 =>
   bq ((sd (kCh k) a.1.sq).change.view == a.1.change.view) (fun h9 => (by rw [e, a8o, h7, h8, h9]; rfl : some (([], (0 : Int), ()), a2f k (j0 a.1.change)) = some (a5o.post a k))) (fun h9 =>
   (by rw [e, a8o, h7, h8, h9]; rfl : some (([a3b k (dgS a.1.change)], (0 : Int), ()), c1v (a2f k (j0 a.1.change)) (m9 (E := D) .int (.st 8) (kCh k) a.1.sq (dgS a.1.change))) = some (a5o.post a k))))))
  And.intro (And.intro (b2n X) X) X)))))))
def f9s : m6 Tp 41 = 96 := by kernel_rfl
def f1t (k : KD) : Int := wrap .i64 (wrap .i64 (2 * (kCr k).faults) - 1)
def rdyB (k : KD) (v : Int) (x : Int) : Bool := bif (sd (kCh k) x).change.view == v then (bif x == kSf k then true else decide (f1t k <= (hrN k (sd (kCh k) x) (kSf k) : Int))) else false
abbrev a0i (k : KD) : List Int := a0e (a0t k)
def a2q (k : KD) (v : Int) (xs : List Int) : List i4 := (xs.filter (rdyB k v)).map fun x => (sd (kCh k) x).change
def d6z (k : KD) (v : Int) : LH D := ⟨List i4 × Nat, [4, 17], fun i => [.own 0, iv i.2], fun i => i.2 <= (a0i k).length /\ i.1 = a2q k v ((a0i k).take i.2), fun i => (a0i k).length - i.2, [(.sl 4, .st 3, 41)], fun i => [.arr (.st 3) 41 i.1], [], fun _ => []⟩
def b2z : j8 D := { ash := [.nm 0, .dat .int], es := KS, rsh := [.dat (.sl (.st 3))], pes := KS, pre := some (fun _ k => okK k), post := fun a k => ((a2q k a.1 (a0i k), ()), k) }
def d0z {k : KD} (h : okK k) : (a0i k).length <= 1000 := by rw [a6a]; unfold a0t; rw [C5]; exact h.len
def f1u {k : KD} {v : Int} {xs : List Int} : (a2q k v xs).length <= xs.length := by unfold a2q; rw [C5]; exact O6 _ _
def f9t {k : KD} {v : Int} {xs : List Int} {i : Nat} (hi : i < xs.length) (e : rdyB k v (xs.getD i 0) = true) : a2q k v (xs.take (i + 1)) = a2q k v (xs.take i) ++ [(sd (kCh k) (xs.getD i 0)).change] := by
 unfold a2q
 rw [B3, B2 hi, O4] at e ⊢
 rw [D9 hi, L4, F5]
 simp [e]
def f9u {k : KD} {v : Int} {xs : List Int} {i : Nat} (hi : i < xs.length) (e : rdyB k v (xs.getD i 0) = false) : a2q k v (xs.take (i + 1)) = a2q k v (xs.take i) := by
 unfold a2q
 rw [B3, B2 hi, O4] at e
 rw [D9 hi, L4, F5]
 simp [e]
def f9v (a : CL D b2z.ash) (k : KD) : Nat -> Nat -> Option (Hint D) := fun f r => match f, r with | 22, 4 => some (.inv (d6z k a.1)) | _, _ => none
def e6j : b2z.looks EF Tp 22 := j8.proveL (c := b2z) EF Zk.skip (H := f9v) (call := fun a k => d0y (f9v a k) 3) (fun a k => b5f (f9v a k) 3) fun (a : CL D b2z.ash) (k : KD) (hp : b2z.holds a k) =>
 have hp : okK k := hp
 have hl := d0z hp
 pQ (d3o (kCh k)) ⟨hp.len, fun p hm => (hp.ch p hm).2⟩ (
 brL fun _ : (a0i k).length <= i5 =>
 And.intro (⟨(([] : List i4), (0 : Nat)), rfl, rfl, rfl, C0 _, rfl⟩ : Ent (d6z k a.1) [SV.own 0, SV.i IntKind.i64 (0 : Int)] [HB.arr (.st 3) 41 ([] : List i4)] []) (
 fun (i : List i4 × Nat) (hI : i.2 <= (a0i k).length /\ i.1 = a2q k a.1 ((a0i k).take i.2)) =>
 have h1 : i.1.length <= 1000 := by rw [hI.2]; exact D5 f1u (by rw [C4]; omega)
 bq (decide ((i.2 : Int) < ((a0i k).length : Int))) (fun h3 =>
  have hi : i.2 < (a0i k).length := by have := A6 h3; omega
  have hc := d4c hp ((a0i k).getD i.2 0); have up (e : rdyB k a.1 ((a0i k).getD i.2 0) = true) := pQ ((sd (kCh k) ((a0i k).getD i.2 0)).change.mz.length <= 1000000) hc.1 (
   pQ ((sd (kCh k) ((a0i k).getD i.2 0)).change.p.length <= 1000000) hc.2.1 (
   pQ ((sd (kCh k) ((a0i k).getD i.2 0)).change.q.length <= 1000000) hc.2.2 (
   bN (Nat.ble ((i.1.length + 1) * m6 Tp 41) i5) (by rw [f9s]; exact D3 (by unfold i5; omega)) (
   (⟨(i.1 ++ [(sd (kCh k) ((a0i k).getD i.2 0)).change], i.2 + 1), by
    show _ = [SV.own 0, iv ((i.2 + 1 : Nat) : Int)]; rw [wr1 (by omega)], rfl, rfl, ⟨hi, by rw [f9t hi e, <- hI.2]⟩, by show (a0i k).length - (i.2 + 1) < (a0i k).length - i.2; omega⟩ : Rnd (d6z k a.1) i [SV.own 0, SV.i IntKind.i64 (wrap .i64 ((i.2 : Int) + 1))] [HB.arr (.st 3) 41 (i.1 ++ [(sd (kCh k) ((a0i k).getD i.2 0)).change])] [])))))
  have st (e : rdyB k a.1 ((a0i k).getD i.2 0) = false) : Rnd (d6z k a.1) i [SV.own 0, SV.i IntKind.i64 (wrap .i64 ((i.2 : Int) + 1))] [HB.arr (.st 3) 41 i.1] [] := ⟨(i.1, i.2 + 1), by
    show _ = [SV.own 0, iv ((i.2 + 1 : Nat) : Int)]; rw [wr1 (by omega)], rfl, rfl, ⟨hi, by rw [f9u hi e]; exact hI.2⟩, by show (a0i k).length - (i.2 + 1) < (a0i k).length - i.2; omega⟩
  bN (iX (i.2 : Int) ((a0i k).length : Int)) (by simp; omega) (
  bq ((sd (kCh k) ((a0i k).getD i.2 0)).change.view == a.1) (fun h4 =>
   bq ((a0i k).getD i.2 0 == kSf k) (fun h5 => up (by unfold rdyB; rw [h4, h5]; rfl)) (fun h5 =>
   pQ (okK k) hp (
   bq (decide (f1t k <= (hrN k (sd (kCh k) ((a0i k).getD i.2 0)) (kSf k) : Int))) (fun h6 => up (by unfold rdyB; rw [h4, h5, h6]; rfl)) (fun h6 => st (by unfold rdyB; rw [h4, h5, h6]; rfl)))))
  (fun h4 => st (by unfold rdyB; rw [h4]; rfl))))
 (fun h3 => (by
  have hi : i.2 = (a0i k).length := by have := A9 h3; omega
  have e : i.1 = a2q k a.1 (a0i k) := by rw [hI.2, hi, D1]
  rw [e]; rfl : some (i.1, ()) = some (b2z.post a k).1))))
def d7a : a0n := ⟨1, [1, 2, 3, 4]⟩
def d7b : a0n := ⟨2, [1, 2, 3, 4, 5, 6, 7]⟩
def a3d (f : Int) : a0n := bif f == 1 then d7a else d7b
def e6k : Con D := { ts := [.int], rt := [.st 0], pre := some (fun a => a = ((1 : Int), ())), ret := fun _ => (d7a, ()) }
def f5e : Con D := { ts := [.int], rt := [.st 0], pre := some (fun a => a = ((2 : Int), ())), ret := fun _ => (d7b, ()) }
def crU : HL D e6k.ts -> Nat -> Nat -> Option (Hint D) := fun _ _ _ => some (.unr 9)
def f9w : e6k.ok Tp 34 := Con.proveS (c := e6k) EF Z0 K0 (fun _ : Unit => ((1 : Int), ())) (fun _ => True) (fun a h => ⟨(), h, trivial⟩) (H := fun _ => crU ((0 : Int), ())) (n := 1) fun (_ : Unit) (_ : True) => (rfl : some (d7a, ()) = some (d7a, ()))
def f9x : f5e.ok Tp 34 := Con.proveS (c := f5e) EF Z0 K0 (fun _ : Unit => ((2 : Int), ())) (fun _ => True) (fun a h => ⟨(), h, trivial⟩) (H := fun _ => crU ((0 : Int), ())) (n := 1) fun (_ : Unit) (_ : True) => (rfl : some (d7b, ()) = some (d7b, ()))
def e6l : Con D := { ts := [.int], rt := [.st 0], pre := some (fun a => a.1 = 1 ∨ a.1 = 2), ret := fun a => (a3d a.1, ()) }
def e6m : e6l.ok Tp 34 := by
 intro a G w vs hw hp hv
 obtain ⟨x, u⟩ := a
 rcases (hp : x = 1 ∨ x = 2) with rfl | rfl
 ·exact f9w ((1 : Int), u) G w vs hw rfl hv
 ·exact f9x ((2 : Int), u) G w vs hw rfl hv
abbrev PS : List ES := [.box 107 [.nm 1, .nm 2, .dat .int], .map .dig .str, .map .str .bool, .box 93 [.nm 0, .dat (.st 0), .dat .int, .dat .int, .dat .int, .nm 4, .nm 5], .map .int (.st 8), .map (.st 10) (.st 9)]
def okF (f self : Int) : Prop := (f = 1 ∨ f = 2) /\ 1 <= self /\ self <= 3 * f + 1
def d7c {f self : Int} (h : okF f self) : (bif a1d (a3d f) != 0 then true else !b6y (a3d f) self) = false := by
 obtain ⟨rfl | rfl, h1, h2⟩ := h
 ·have : self = 1 ∨ self = 2 ∨ self = 3 ∨ self = 4 := by omega
  rcases this with rfl | rfl | rfl | rfl <;> rfl
 ·have : self = 1 ∨ self = 2 ∨ self = 3 ∨ self = 4 ∨ self = 5 ∨ self = 6 ∨ self = 7 := by omega
  rcases this with rfl | rfl | rfl | rfl | rfl | rfl | rfl <;> rfl
def c5j (f : Int) : (a3d f).nodes.length <= 1000000 := by
 unfold a3d
 cases f == 1 <;> decide
abbrev Γf1 : Nat -> Option (Con D) := j6 Γk 34 e6l
def Kf2 : o8 EF Tp Γf1 Δk := Kk2.c e6m
def c7o : j8 D := { ash := [.nm 0, .dat .int, .dat .int], es := BS, rsh := [.nm 3], pes := PS, pre := some (fun a _ => okF a.1 a.2.1), post := fun a e => ((), e.1, e.2.1, e.2.2.1, (a3d a.1, a.2.1, 1, 1, ()), [], [], ()) }
def g7g : c7o.ok EF Tp 10 := j8.proveH (c := c7o) EF Zk.skip (H := fun _ _ _ _ => none) (call := fun _ _ => a5m EF Zk.skip (fun _ => none) Γf1 Δk (fun _ _ => none) 3) (fun _ _ => a1t a1j.nil Kf2 3) fun (a : CL D c7o.ash) (e : EL D c7o.es) (hp : c7o.holds a e) =>
 have hp : okF a.1 a.2.1 := hp
 pQ (a.1 = 1 ∨ a.1 = 2) hp.1 (
 bq (bif a1d (a3d a.1) != 0 then true else !b6y (a3d a.1) a.2.1) (fun h1 => (by rw [d7c hp] at h1; exact absurd h1 (by decide) : none = some (c7o.post a e))) (fun _ =>
 pQ ((a3d a.1).nodes.length <= 1000000) (c5j a.1) (
 (rfl : some ((), (e.1.1, ()), e.2.1, e.2.2.1, (a3d a.1, a.2.1, (1 : Int), (1 : Int), ()), [], [], ()) = some (c7o.post a e)))))
abbrev Γr1 : Nat -> Option (Con D) := j6 noC 177 a3v
def Kr1 : o8 EF Tp Γr1 noO := K0.c c5g
def ZQ : ZF Tp D := (Z0.side Kr1).skip
def f9y : a4c.ok Tp 49 := Con.proveS (c := a4c) EF ZQ Kr1 (fun i : Int × Int × UInt8 => (a0g i.1 i.2.1 i.2.2, ())) b5b (fun a h => h) (H := fun _ _ _ => some (.unr 40)) (n := 6) fun (i : Int × Int × UInt8) (hq : b5b i) =>
 have q1 := hq.1
 have q2 := hq.2.1
 have q3 := hq.2.2.1
 have q4 := hq.2.2.2
 bq (!bif decide (1 <= i.1) then decide (i.1 <= 28) else false) (fun h1 => (by simp [q1, q2] at h1 : some ([], 2, ()) = some (a4c.ret (a0g i.1 i.2.1 i.2.2, ())))) (fun _ =>
 bq (!bif decide (1 <= i.2.1) then decide (i.2.1 <= 1048576) else false) (fun h1 => (by simp [q3, show i.2.1 <= 1048576 by omega] at h1 : some ([], 2, ()) = some (a4c.ret (a0g i.1 i.2.1 i.2.2, ())))) (fun _ =>
 bq (bif bif bif decide (1 <= 0) then true else decide (wrap .i64 ((0 : Int) + 8) < (1 : Int)) then true else decide (0 < 0) then true else decide (i.2.1 <= 0)) (fun h1 => (by
  have e : decide (i.2.1 <= 0) = false := by simp; omega
  rw [e] at h1; exact absurd h1 (by decide) : some ([], 2, ()) = some (a4c.ret (a0g i.1 i.2.1 i.2.2, ())))) (fun _ =>
 bN (Nat.ble ((length ([] : List UInt8) + (N i.1).length) * m6 Tp 5) i5) (m7 0 (B9 _) (j5 _) (by omega)) (
 bN (Nat.ble (((w1 i.1).length + (N i.2.1).length) * m6 Tp 5) i5) (m7 1 (l1 _) (j5 _) (by omega)) (
 bN (Nat.ble (((w2 i.1 i.2.1).length + (N 0).length) * m6 Tp 5) i5) (m7 2 (l2 _ _) (j5 _) (by omega)) (
 bN (Nat.ble (((w3 i.1 i.2.1).length + (N (1 : Nat)).length) * m6 Tp 5) i5) (m7 3 (l3 _ _) (j5 _) (by omega)) (
 bN (Nat.ble (((w4 i.1 i.2.1).length + (N 0).length) * m6 Tp 5) i5) (m7 4 (l4 _ _) (j5 _) (by omega)) (
 bN (Nat.ble (((w5 i.1 i.2.1).length + (d9w 9).l.length) * m6 Tp 5) i5) (m7 5 (l5 _ _) (a1x _) (by omega)) (
 bN (Nat.ble (((w6 i.1 i.2.1).length + (N (0 : Nat)).length) * m6 Tp 5) i5) (m7 6 (l6 _ _) (j5 _) (by omega)) (
 bN (Nat.ble (((w7 i.1 i.2.1).length + (N (1 : Nat)).length) * m6 Tp 5) i5) (m7 7 (l7 _ _) (j5 _) (by omega)) (
 bN (Nat.ble (((w8 i.1 i.2.1).length + (N 1).length) * m6 Tp 5) i5) (m7 8 (l8 _ _) (j5 _) (by omega)) (
 bN (Nat.ble (((w9 i.1 i.2.1).length + (a9x i.2.2 1).l.length) * m6 Tp 5) i5) (m7 9 (l9 _ _) (a1x _) (by omega)) (
 bN (Nat.ble (((w10 i.1 i.2.1 i.2.2).length + (N 0).length) * m6 Tp 5) i5) (m7 10 (l10 _ _ _) (j5 _) (by omega)) (
 (by rw [f8v]; rfl : some (w11 i.1 i.2.1 i.2.2, 0, ()) = some (a4c.ret (a0g i.1 i.2.1 i.2.2, ())))))))))))))))))
end
end Go.Proofs.YtpbcabanpppfoaaGreat
