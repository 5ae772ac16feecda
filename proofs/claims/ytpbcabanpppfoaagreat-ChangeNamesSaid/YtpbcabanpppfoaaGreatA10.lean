/- A part of the proof. No condition. -/
import Derived.Test.YtpbcabanpppfoaaGreatA9
set_option linter.all false
namespace Go.Proofs.YtpbcabanpppfoaaGreat
open Go Go.Gx Go.Vz
open Go.IntKind (wrap)
open List (flatMap getD length take replicate)
set_option maxRecDepth 100000
noncomputable section
def p9 : Nat -> Nat -> List UInt8
 | 0, _ => []
 | f + 1, n => bif Nat.beq n 0 then [] else p9 f (n / 256) ++ [UInt8.ofNat (n % 256)]
def a1e (n : Nat) : List UInt8 := p9 8 n
def b2q (f : Nat) : p9 f 0 = [] := by cases f <;> rfl
def b5t {f n : Nat} (h : 0 < n) (hf : n < 256 ^ f) : ∃ g, f = g + 1 /\ p9 f n = p9 g (n / 256) ++ [UInt8.ofNat (n % 256)] /\ n / 256 < 256 ^ g := by
 cases f with
 | zero => simp at hf; omega
 | succ g =>
  refine ⟨g, rfl, ?_, ?_⟩
  ·have : Nat.beq n 0 = false := by cases n with | zero => omega | succ n => rfl
   simp [p9, this]
  ·rw [R5] at hf; omega
def e4k : Con D := { ts := [.int], rt := [.sl .u8], pre := some (fun a => 0 <= a.1 /\ a.1 <= 9007199254740991), ret := fun a => (a1e a.1.toNat, ()) }
def e9r (N : Int) : LH D := ⟨Nat × Nat × List UInt8, [0, 3], fun i => [.i .i64 (i.2.1 : Nat), .own 0], fun i => i.2.1 < 256 ^ i.1 /\ a1e N.toNat = p9 i.1 i.2.1 ++ i.2.2 /\ i.1 + i.2.2.length <= 8 /\ i.2.1 <= 9007199254740991, fun i => i.1, [(.sl 3, .u8, 5)], fun i => [.arr .u8 5 i.2.2], [], fun _ => []⟩
def e9s {n : Nat} : Int.toNat (wrap .u8 (Int.tmod (n : Int) 256)) = n % 256 := by
 have h : Int.tmod (n : Int) 256 = ((n % 256 : Nat) : Int) := by rw [Ax (by omega)]; omega
 rw [h, IntKind.wrap_u8]; omega
def e9t {n : Nat} (h : n <= 9007199254740991) : wrap .i64 (Int.tdiv (n : Int) 256) = ((n / 256 : Nat) : Int) := by
 have h2 : Int.tdiv (n : Int) 256 = ((n / 256 : Nat) : Int) := by rw [Int.tdiv_eq_ediv_of_nonneg (by omega)]; omega
 rw [h2]; exact n9 (by omega)
def g3z : e4k.ok Tp 208 := Con.prove (c := e4k) EF Z0 K0 (H := fun a _ i => match i with | 2 => some (.inv (e9r a.1)) | _ => none) (n := 4) fun (a : HL D e4k.ts) (hp : e4k.holds a) =>
 And.intro (⟨(8, a.1.toNat, []), by
   have h : 0 <= a.1 := hp.1; show [iv a.1, .own 0] = [SV.i .i64 ((a.1.toNat : Nat) : Int), .own 0]; rw [Int.toNat_of_nonneg h], rfl, rfl, by
   have h : a.1 <= 9007199254740991 := hp.2; have h0 : 0 <= a.1 := hp.1; refine ⟨?_, ?_, B9 _, ?_⟩
   ·show a.1.toNat < 256 ^ 8; have : a.1.toNat <= 9007199254740991 := Cq.2 h; omega
   ·show _ = p9 8 a.1.toNat ++ []; rw [D6]; rfl
   ·exact Cq.2 h⟩ : Ent (e9r a.1) [iv a.1, .own 0] [.arr .u8 5 []] [])
 fun (i : Nat × Nat × List UInt8) (hI : (e9r a.1).inv i) =>
 bq (decide (0 < (i.2.1 : Int))) (fun h2 =>
  bN (Nat.ble ((length [UInt8.ofNat (Int.toNat (wrap .u8 (Int.tmod (i.2.1 : Int) (256 : Int))))] + length i.2.2) * j0 Tp 5) d4) (by
   rw [mb5]; exact D3 (by have h : i.1 + i.2.2.length <= 8 := hI.2.2.1; simp only [E9]; unfold d4; omega)) (
  (by
   obtain ⟨k1, k2, k3, k4⟩ := hI; obtain ⟨g, hg, e1, e2⟩ := b5t (by simpa using h2) k1; exact ⟨(g, i.2.1 / 256, [UInt8.ofNat (i.2.1 % 256)] ++ i.2.2), by rw [e9t k4]; rfl, by rw [e9s]; rfl, rfl, ⟨e2, by rw [k2, e1, B6], by show g + ([UInt8.ofNat (i.2.1 % 256)] ++ i.2.2).length <= 8; simp; omega, by show i.2.1 / 256 <= _; omega⟩, by show g < i.1; omega⟩ :
   Rnd (e9r a.1) i [iv (wrap .i64 (Int.tdiv (i.2.1 : Int) (256 : Int))), .own 0] [.arr .u8 5 ([UInt8.ofNat (Int.toNat (wrap .u8 (Int.tmod (i.2.1 : Int) (256 : Int))))] ++ i.2.2)] [])))
 (fun h2 => (by
  have h : i.2.1 = 0 := by simpa using h2
  have k2 : a1e a.1.toNat = p9 i.1 i.2.1 ++ i.2.2 := hI.2.1; rw [h, b2q, T8] at k2; show some (i.2.2, ()) = some (a1e a.1.toNat, ()); rw [k2] : some (i.2.2, ()) = some (e4k.ret a)))
def b5u (n : Nat) : List UInt8 := UInt8.ofNat (a1e n).length :: a1e n
def c0o (a : HL D [.int]) : HL D [.sl .u8, .int] := bif decide (a.1 < 0) then ([], 9, ()) else bif decide (9007199254740991 < a.1) then ([], 9, ()) else (b5u a.1.toNat, 0, ())
def a3a : Con D := { ts := [.int], rt := [.sl .u8, .int], ret := c0o }
def b4a : ∀ {f n : Nat}, (p9 f n).length <= f
 | 0, _ => B9 _
 | f + 1, n => by
  unfold p9; cases Nat.beq n 0 with
  | true => simp
  | false => have := b4a (f := f) (n := n / 256); simp; exact this
def b5v : ∀ {f n k : Nat}, n < 256 ^ f -> (k < (p9 f n).length ↔ 0 < n / 256 ^ k)
 | 0, n, k, hf => by
  have : n = 0 := by simpa using hf
  subst this; simp [p9]
 | f + 1, n, k, hf => by
  cases n with
  | zero => simp [p9]
  | succ m =>
   have hf' : (m + 1) / 256 < 256 ^ f := by rw [R5] at hf; omega
   have e : p9 (f + 1) (m + 1) = p9 f ((m + 1) / 256) ++ [UInt8.ofNat ((m + 1) % 256)] := rfl; rw [e, B7, E9]; cases k with
   | zero => simp
   | succ k =>
    have := b5v (k := k) hf'; rw [R5, Y8, <- Nat.div_div_eq_div_mul, <- this]; omega
def c3x : ∀ {f n k : Nat}, n < 256 ^ f -> k < (p9 f n).length -> (p9 f n)[(p9 f n).length - 1 - k]? = some (UInt8.ofNat (n / 256 ^ k % 256))
 | 0, n, k, hf, h => by simp [p9] at h
 | f + 1, n, k, hf, h => by
  cases n with
  | zero => simp [p9] at h
  | succ m =>
   have hf' : (m + 1) / 256 < 256 ^ f := by rw [R5] at hf; omega
   have e : p9 (f + 1) (m + 1) = p9 f ((m + 1) / 256) ++ [UInt8.ofNat ((m + 1) % 256)] := rfl; rw [e, B7, E9] at h ⊢; cases k with
   | zero =>
    rw [show (p9 f ((m + 1) / 256)).length + 1 - 1 - 0 = (p9 f ((m + 1) / 256)).length by omega, G7 (B9 _)]; simp
   | succ k =>
    have := c3x (k := k) hf' (by omega); rw [show (p9 f ((m + 1) / 256)).length + 1 - 1 - (k + 1) = (p9 f ((m + 1) / 256)).length - 1 - k by omega, F4 (by omega), this,
     R5, Y8 (256 ^ k), <- Nat.div_div_eq_div_mul]
def e4l {N : Int} {k : Nat} (h0 : 0 <= N) (hk : k <= 8) : a6d .i64 N (wrap .i64 (8 * (k : Int))) = ((N.toNat / 256 ^ k : Nat) : Int) := by
 have e1 : wrap .i64 (8 * (k : Int)) = ((8 * k : Nat) : Int) := by rw [show 8 * (k : Int) = ((8 * k : Nat) : Int) by omega]; exact n9 (by omega)
 obtain ⟨n, rfl⟩ := I5 h0
 rw [e1]
 show ((n : Int)).fdiv (2 ^ (min ((8 * k : Nat) : Int).toNat 64)) = _
 have e2 : min ((8 * k : Nat) : Int).toNat 64 = 8 * k := by rw [G6]; omega
 have e3 : (2 : Int) ^ (8 * k) = ((256 ^ k : Nat) : Int) := by rw [Int.pow_mul]; simp
 rw [e2, e3, Int.fdiv_eq_ediv_of_nonneg _ (Int.natCast_nonneg _), G6]
 exact (Int.natCast_ediv n (256 ^ k)).symm
def d2p {m : Nat} : Int.toNat (wrap .u8 (m : Int)) = m % 256 := by rw [IntKind.wrap_u8]; omega
def c6d (N : Int) : LH D := ⟨Nat, [4], fun k => [.i .i64 (k : Nat)], fun k => k <= (a1e N.toNat).length, fun k => 8 - k, [], fun _ => [], [], fun _ => []⟩
def c6e (N : Int) : LH D := ⟨Nat, [24, 5], fun k => [.i .i64 (k : Nat), .own 0], fun k => k <= (a1e N.toNat).length, fun k => 8 - k, [(.sl 5, .u8, 5)], fun k => [.arr .u8 5 (UInt8.ofNat (a1e N.toNat).length :: (a1e N.toNat).take k)], [], fun _ => []⟩
def c6f : a3a.ok Tp 286 := Con.prove (c := a3a) EF Z0 K0 (H := fun a _ i => match i with | 4 => some (.inv (c6d a.1)) | 8 => some (.inv (c6e a.1)) | _ => none) (n := 4) fun (a : HL D a3a.ts) (_ : a3a.holds a) =>
 bq (decide (a.1 < 0)) (fun h1 => a3a.lf a (ct h1 rfl)) (fun h1 =>
 bq (decide (9007199254740991 < a.1)) (fun h2 => a3a.lf a (cf h1 (ct h2 rfl))) (fun h2 =>
 have h0 : 0 <= a.1 := U2.1 (A9 h1)
 have hm : a.1.toNat < 256 ^ 8 := by
  have : a.1 <= 9007199254740991 := U2.1 (A9 h2); have : a.1.toNat <= 9007199254740991 := Cq.2 this; omega
 have hL : (a1e a.1.toNat).length <= 8 := b4a
 And.intro (⟨(0 : Nat), rfl, rfl, rfl, C0 _⟩ : Ent (c6d a.1) [iv 0] [] [])
 fun (k : Nat) (hk : (c6d a.1).inv k) =>
 have hk : k <= (a1e a.1.toNat).length := hk
 have hs := e4l (k := k) h0 (D5 hk hL)
 bN (decide (0 <= wrap .i64 ((8 : Int) * (k : Int)))) (by
  rw [show 8 * (k : Int) = ((8 * k : Nat) : Int) by omega, n9 (by omega)]; simp; omega) (
 bq (decide (0 < a6d .i64 a.1 (wrap .i64 ((8 : Int) * (k : Int))))) (fun h4 =>
  (by
   have h4' : k < (a1e a.1.toNat).length := (b5v hm).2 (by rw [hs] at h4; have := A6 h4; omega)
   exact ⟨(k + 1 : Nat), by rw [n4 h4' (by unfold d4; omega)]; rfl, rfl, rfl, h4', by show 8 - (k + 1) < 8 - k; omega⟩ : Rnd (c6d a.1) k [iv (wrap .i64 ((k : Int) + 1))] [] []))
 (fun h4 =>
  have hkL : k = (a1e a.1.toNat).length := by
   have : ¬ k < (a1e a.1.toNat).length := fun h => by
    have := (b5v hm).1 h; rw [hs] at h4; have := A9 h4; omega
   omega
  And.intro (by
   refine ⟨(0 : Nat), rfl, ?_, rfl, C0 _⟩; show [HB.arr .u8 5 [UInt8.ofNat (Int.toNat (wrap .u8 (k : Int)))]] = [HB.arr .u8 5 [UInt8.ofNat (a1e a.1.toNat).length]]; rw [d2p, <- hkL, N3 (by omega)] : Ent (c6e a.1) [iv 0, .own 0] [.arr .u8 5 [UInt8.ofNat (Int.toNat (wrap .u8 (k : Int)))]] [])
  fun (i : Nat) (hi : (c6e a.1).inv i) =>
  have hi : i <= (a1e a.1.toNat).length := hi
  bq (decide ((i : Int) < (k : Int))) (fun h6 =>
   have h6' : i < k := by simpa using h6
   have hw : wrap .i64 (wrap .i64 ((k : Int) - 1) - (i : Int)) = ((k - 1 - i : Nat) : Int) := by
    rw [show (k : Int) - 1 = ((k - 1 : Nat) : Int) by omega, n9 (by omega), show ((k - 1 : Nat) : Int) - (i : Int) = ((k - 1 - i : Nat) : Int) by omega, n9 (by omega)]
   bN (decide (0 <= wrap .i64 ((8 : Int) * wrap .i64 (wrap .i64 ((k : Int) - 1) - (i : Int))))) (by
    rw [hw, show 8 * ((k - 1 - i : Nat) : Int) = ((8 * (k - 1 - i) : Nat) : Int) by omega, n9 (by omega)]; simp; omega) (
   bN (Nat.ble ((length (UInt8.ofNat (length (a1e (Int.toNat a.1))) :: take i (a1e (Int.toNat a.1))) + length [UInt8.ofNat (Int.toNat (wrap .u8 (a6d .i64 a.1 (wrap .i64 ((8 : Int) * wrap .i64 (wrap .i64 ((k : Int) - 1) - (i : Int)))))))]) * j0 Tp 5) d4) (by
    rw [mb5]; exact D3 (by simp only [I3, C4, List.length_nil]; unfold d4; omega)) (
   (by
    have hs2 := e4l (k := k - 1 - i) h0 (by omega); have hg := c3x (k := k - 1 - i) hm (by show _ < (a1e a.1.toNat).length; omega)
    have hg' : (a1e a.1.toNat)[i]? = some (UInt8.ofNat (a.1.toNat / 256 ^ (k - 1 - i) % 256)) := by
     rw [<- hg]; congr 1; show i = (a1e a.1.toNat).length - 1 - (k - 1 - i); omega
    refine ⟨(i + 1 : Nat), ?_, ?_, rfl, by show i + 1 <= _; omega, by show 8 - (i + 1) < 8 - i; omega⟩
    ·rw [n4 h6' (by unfold d4; omega)]; rfl
    ·show [HB.arr .u8 5 (UInt8.ofNat (a1e a.1.toNat).length :: take i (a1e a.1.toNat) ++ [_])] = [HB.arr .u8 5 (UInt8.ofNat (a1e a.1.toNat).length :: (a1e a.1.toNat).take (i + 1))]; rw [hw, hs2, d2p, S8, hg']; rfl :
    Rnd (c6e a.1) i [iv (wrap .i64 ((i : Int) + 1)), .own 0] [.arr .u8 5 (UInt8.ofNat (length (a1e (Int.toNat a.1))) :: take i (a1e (Int.toNat a.1)) ++ [UInt8.ofNat (Int.toNat (wrap .u8 (a6d .i64 a.1 (wrap .i64 ((8 : Int) * wrap .i64 (wrap .i64 ((k : Int) - 1) - (i : Int)))))))])] []))))
  (fun h6 => a3a.lf a (cf h1 (cf h2 (by
   have h6' : ¬ i < k := by simpa using h6
   show (UInt8.ofNat (a1e a.1.toNat).length :: take i (a1e a.1.toNat), (0 : Int), ()) = (b5u a.1.toNat, 0, ()); rw [F9 (by omega)]; rfl))))))))
def c3y : a3a.ok Tp 177 := Con.prove (c := a3a) EF Z0 (K0.c g3z) (H := H0) (n := 4) fun (a : HL D a3a.ts) (_ : a3a.holds a) =>
 bq (decide (a.1 < 0)) (fun h1 => a3a.lf a (ct h1 rfl)) (fun h1 =>
 bq (decide (9007199254740991 < a.1)) (fun h2 => a3a.lf a (cf h1 (ct h2 rfl))) (fun h2 =>
 And.intro (Pre.mk (p := 0 <= a.1 /\ a.1 <= 9007199254740991) ⟨U2.1 (A9 h1), U2.1 (A9 h2)⟩) (
 brL fun hl : (a1e a.1.toNat).length <= d4 =>
 have hL : (a1e a.1.toNat).length <= 8 := b4a
 bN (Nat.ble ((length [UInt8.ofNat (Int.toNat (wrap .u8 ((a1e a.1.toNat).length : Int)))] + (a1e a.1.toNat).length) * j0 Tp 5) d4) (by
  rw [mb5]; exact D3 (by simp only [E9]; unfold d4; omega))
 (a3a.lf a (cf h1 (cf h2 (by
  show (UInt8.ofNat (Int.toNat (wrap .u8 ((a1e a.1.toNat).length : Int))) :: a1e a.1.toNat, (0 : Int), ()) = (b5u a.1.toNat, 0, ()); rw [d2p, N3 (by omega)]; rfl)))))))
abbrev Γb : Nat -> Option (Con D) := i5 noC 306 b3x
theorem Kb : n3 EF Tp Γb noO := K0.c e4a
def a4f (l : List UInt8) : Nat := l.foldl (fun a c => 256 * a + c.toNat) 0
theorem c0p (l : List UInt8) (c : UInt8) : a4f (l ++ [c]) = 256 * a4f l + c.toNat := by unfold a4f; rw [List.foldl_append]; rfl
theorem c6g : ∀ (l : List UInt8) (a n : Nat), a < n -> l.foldl (fun a c => 256 * a + c.toNat) a < n * 256 ^ l.length
 | [], a, n, h => by simpa using h
 | c :: l, a, n, h => by
  have hc := c.toNat_lt; have := c6g l (256 * a + c.toNat) (256 * n) (by omega); rw [X0, I3, R5, Y8 (256 ^ l.length), <- Nat.mul_assoc, Y8 n]; exact this
theorem g4a {l : List UInt8} (h : l.length <= 7) : a4f l < 72057594037927936 := by
 have := c6g l 0 1 (by omega)
 rw [U8] at this
 refine C3 this ?_
 exact D5 (Nat.pow_le_pow_right (by omega) h) (by decide)
theorem d8r {l : List UInt8} (h : l.length <= 6) : a4f l < 281474976710656 := by
 have := c6g l 0 1 (by omega)
 rw [U8] at this
 refine C3 this ?_
 exact D5 (Nat.pow_le_pow_right (by omega) h) (by decide)
theorem g7q {x c : Nat} (hx : x < 281474976710656) (hc : c < 256) : a3e .or .i64 (b3h .i64 (x : Int) 8) (wrap .i64 (c : Int)) = ((256 * x + c : Nat) : Int) := by
 have e1 : b3h .i64 (x : Int) 8 = ((256 * x : Nat) : Int) := by
  show wrap .i64 ((x : Int) * 2 ^ 8) = _; rw [IntWalk.i64_in _ (by omega)]; omega
 have e2 : wrap .i64 (c : Int) = (c : Int) := n9 (by omega)
 rw [e1, e2]
 show wrap .i64 (((BitVec.ofInt 64 ((256 * x : Nat) : Int) ||| BitVec.ofInt 64 (c : Int)).toNat : Nat) : Int) = _
 rw [BitVec.toNat_or, T7, T7, U3, U3, N3 (by omega), N3 (by omega)]
 have : 2 ^ 8 * x + c = 2 ^ 8 * x ||| c := Nat.two_pow_add_eq_or_of_lt (by omega) x
 rw [show 256 * x = 2 ^ 8 * x by omega, <- this]
 exact n9 (by omega)
abbrev hdU (l : List UInt8) : UInt8 := l.getD 0 0
abbrev tlU (l : List UInt8) : List UInt8 := l.drop 1
def tkN (l : List UInt8) : Int × List UInt8 × Int :=
 bif Nat.beq l.length 0 then (0, [], 3) else bif decide (7 < (hdU l).toNat) then (0, [], 4) else bif decide ((tlU l).length < (hdU l).toNat) then (0, [], 3) else
 bif decide (0 < (hdU l).toNat) && decide (((tlU l).getD 0 0).toNat = 0) then (0, [], 4) else bif decide (9007199254740991 < a4f ((tlU l).take (hdU l).toNat)) then (0, [], 9) else
 ((a4f ((tlU l).take (hdU l).toNat) : Nat), (tlU l).drop (hdU l).toNat, 0)
abbrev R3 (x : Int × List UInt8 × Int) : HL D [.int, .sl .u8, .int] := (x.1, x.2.1, x.2.2, ())
def m8 : Con D := { ts := [.sl .u8], rt := [.int, .sl .u8, .int], pre := some (fun a => a.1.length <= 1000000), ret := fun a => R3 (tkN a.1) }
abbrev T1 (l : List UInt8) : List UInt8 := List.drop 1 (take l.length l)
abbrev iB (l : List UInt8) : Int := wrap .i64 ((hdU l).toNat : Int)
abbrev S1 (l : List UInt8) : List UInt8 := List.drop 0 (take (Int.toNat (iB l)) (T1 l))
def f6r (l : List UInt8) : LH D := ⟨Nat, [38, 2], fun i => [.i .i64 (i : Nat), .i .i64 (a4f (l.take i))], fun i => i <= l.length, fun i => l.length - i, [], fun _ => [], [], fun _ => []⟩
theorem b1y (l : List UInt8) : T1 l = tlU l := by unfold T1; rw [D1]
theorem b1z (l : List UInt8) : iB l = ((hdU l).toNat : Int) := n9 (by have := (hdU l).toNat_lt; omega)
theorem f3c (l : List UInt8) : S1 l = (tlU l).take (hdU l).toNat := by unfold S1; rw [b1z, b1y, N8, G6]
theorem g4b {l : List UInt8} {i : Nat} (hl : l.length <= 7) (hi : i < l.length) : Rnd (f6r l) i [iv (wrap .i64 ((i : Int) + 1)), iv (a3e .or .i64 (b3h .i64 (a4f (l.take i) : Nat) 8) (wrap .i64 ((l.getD i 0).toNat : Int)))] [] [] :=
 ⟨(i + 1 : Nat), by
  rw [n4 hi (by unfold d4; omega), g7q (d8r (by rw [C4]; omega)) (l.getD i 0).toNat_lt, <- c0p]
  rw [show l.take i ++ [l.getD i 0] = l.take (i + 1) by rw [S8, B2 hi, B3, B2 hi]; rfl]
  rfl, rfl, rfl, hi, by show l.length - (i + 1) < l.length - i; omega⟩
theorem g4c {a b : Nat} (h : a ≠ b) : Nat.beq a b = false := by
 cases e : Nat.beq a b with
 | false => rfl
 | true => exact absurd (A8 e) h
section
variable {l : List UInt8} (h2 : (((l.length : Nat) : Int) == 0) = false)
include h2
theorem tk2 : Nat.beq l.length 0 = false := g4c fun e => by rw [e] at h2; cases h2
variable (h3 : decide ((7 : Int) < iB l) = false)
include h3
theorem tk3 : decide (7 < (hdU l).toNat) = false := by rw [b1z] at h3; simp at h3 ⊢; omega
variable (h5 : decide (((T1 l).length : Int) < iB l) = false)
include h5
theorem tk5 : decide ((tlU l).length < (hdU l).toNat) = false := by rw [b1z, b1y] at h5; simp at h5 ⊢; omega
end
theorem d2q : m8.ok Tp 300 := Con.prove (c := m8) EF Z0 Kb (H := fun a f r => match f, r with | 300, 11 => some (.inv (f6r (S1 a.1))) | _, _ => none) (n := 2) fun (a : HL D m8.ts) (hp : m8.holds a) =>
 have hp : a.1.length <= 1000000 := hp
 brL fun _ : a.1.length <= d4 =>
 bq (((a.1.length : Nat) : Int) == 0) (fun h2 => (by
   have h2 : a.1.length = 0 := by simpa using h2
   show some (_, _) = some (R3 (tkN a.1)); unfold tkN; rw [h2]; rfl : some ((0 : Int), ([] : List UInt8), (3 : Int), ()) = some (m8.ret a)))
 (fun h2 => have h2' : 0 < a.1.length := Nat.pos_of_ne_zero fun e => by rw [e] at h2; cases h2
 bN (decide ((0 : Int) <= 0) && decide ((0 : Int) < (a.1.length : Int))) (by simp; omega) (
 bN (decide ((0 : Int) <= 1) && (decide ((1 : Int) <= (a.1.length : Int)) && decide ((a.1.length : Int) <= (a.1.length : Int)))) (by simp; omega) (
 bq (decide ((7 : Int) < iB a.1)) (fun h3 => (by
   have h3 : decide (7 < (hdU a.1).toNat) = true := by rw [b1z] at h3; simp at h3 ⊢; omega
   show some (_, _) = some (R3 (tkN a.1)); unfold tkN; rw [tk2 h2, h3]; rfl : some ((0 : Int), ([] : List UInt8), (4 : Int), ()) = some (m8.ret a)))
 (fun h3 =>
 brL fun _ : (T1 a.1).length <= d4 =>
 bq (decide (((T1 a.1).length : Int) < iB a.1)) (fun h5 => (by
   have h5 : decide ((tlU a.1).length < (hdU a.1).toNat) = true := by rw [b1z, b1y] at h5; simp at h5 ⊢; omega
   show some (_, _) = some (R3 (tkN a.1)); unfold tkN; rw [tk2 h2, tk3 h2 h3, h5]; rfl : some ((0 : Int), ([] : List UInt8), (3 : Int), ()) = some (m8.ret a)))
 (fun h5 =>
 have q3 : (hdU a.1).toNat <= 7 := Nat.le_of_not_lt (A9 (tk3 h2 h3))
 have q5 : (hdU a.1).toNat <= (tlU a.1).length := Nat.le_of_not_lt (A9 (tk5 h2 h3 h5))
 have hs : (S1 a.1).length <= 7 := by rw [f3c, C4]; omega
 have tl := fun (h6 : (decide (0 < (hdU a.1).toNat) && decide (((tlU a.1).getD 0 0).toNat = 0)) = false) =>
  bN (decide ((0 : Int) <= 0) && (decide ((0 : Int) <= iB a.1) && decide (iB a.1 <= ((T1 a.1).length : Int)))) (by rw [b1z, b1y]; simp at q5 ⊢; omega) (
  brL fun _ : (S1 a.1).length <= d4 =>
  And.intro (⟨(0 : Nat), rfl, rfl, rfl, C0 _⟩ : Ent (f6r (S1 a.1)) [iv 0, iv 0] [] [])
  fun (i : Nat) (hI : i <= (S1 a.1).length) =>
  bq (decide ((i : Int) < ((S1 a.1).length : Int))) (fun h7 => have hi : i < (S1 a.1).length := by have := A6 h7; omega
   bN (iX (i : Int) ((S1 a.1).length : Int)) (by simp only [A7, C6]; omega) (
   g4b hs hi))
  (fun h7 => have hi : i = (S1 a.1).length := by have := A9 h7; omega
   have ef : a4f ((S1 a.1).take i) = a4f ((tlU a.1).take (hdU a.1).toNat) := by rw [hi, D1, f3c]
   bq (decide ((9007199254740991 : Int) < (a4f ((S1 a.1).take i) : Nat))) (fun h8 => (by
     have h8 : decide (9007199254740991 < a4f ((tlU a.1).take (hdU a.1).toNat)) = true := by rw [ef] at h8; simp only [C6] at h8 ⊢; omega
     show some (_, _) = some (R3 (tkN a.1)); unfold tkN; rw [tk2 h2, tk3 h2 h3, tk5 h2 h3 h5, h6, h8]; rfl : some ((0 : Int), ([] : List UInt8), (9 : Int), ()) = some (m8.ret a)))
   (fun h8 =>
   bN (decide ((0 : Int) <= iB a.1) && (decide (iB a.1 <= ((T1 a.1).length : Int)) && decide (((T1 a.1).length : Int) <= ((T1 a.1).length : Int)))) (by rw [b1z, b1y]; simp at q5 ⊢; omega) (
   pQ ((List.drop (Int.toNat (iB a.1)) (take (T1 a.1).length (T1 a.1))).length <= 1000000) (by show (List.drop _ (take _ (T1 a.1))).length <= 1000000; rw [b1y]; simp; omega) (
   (by
    have h8 : decide (9007199254740991 < a4f ((tlU a.1).take (hdU a.1).toNat)) = false := by rw [ef] at h8; simp only [Q4] at h8 ⊢; omega
    show some (_, _) = some (R3 (tkN a.1)); unfold tkN; rw [tk2 h2, tk3 h2 h3, tk5 h2 h3 h5, h6, h8, ef, D1, b1y, b1z]; rfl :
    some (((a4f ((S1 a.1).take i) : Nat) : Int), List.drop (Int.toNat (iB a.1)) (take (T1 a.1).length (T1 a.1)), (0 : Int), ()) = some (m8.ret a)))))))
 bq (decide ((0 : Int) < iB a.1)) (fun h6 =>
  have p6 : 0 < (hdU a.1).toNat := by rw [b1z] at h6; simp at h6 ⊢; omega
  bN (decide ((0 : Int) <= 0) && decide ((0 : Int) < ((T1 a.1).length : Int))) (by rw [b1y]; simp at q5 p6 ⊢; omega) (
  bq (((((T1 a.1).getD 0 0).toNat : Nat) : Int) == 0) (fun h7 => (by
    have h7 : (decide (0 < (hdU a.1).toNat) && decide (((tlU a.1).getD 0 0).toNat = 0)) = true := by
     rw [b1y] at h7; have h7 : ((tlU a.1).getD 0 0).toNat = 0 := by have := eq_of_beq h7; omega
     rw [h7]; simpa using p6
    show some (_, _) = some (R3 (tkN a.1)); unfold tkN; rw [tk2 h2, tk3 h2 h3, tk5 h2 h3 h5, h7]; rfl : some ((0 : Int), ([] : List UInt8), (4 : Int), ()) = some (m8.ret a)))
  (fun h7 => tl (by
    rw [b1y] at h7; have h7 : ¬ ((tlU a.1).getD 0 0).toNat = 0 := fun e => by rw [e] at h7; cases h7
    rw [E5 h7, O5]))))
 (fun h6 => tl (by
  have p6 : ¬ 0 < (hdU a.1).toNat := by rw [b1z] at h6; simp at h6 ⊢; omega
  rw [E5 p6, X5])))))))
def tkF (l : List UInt8) (n : Int) : List UInt8 × List UInt8 × Int := bif decide (n < 0) then ([], [], 2) else bif decide ((l.length : Int) < n) then ([], [], 3) else (l.take n.toNat, l.drop n.toNat, 0)
def a0v : Con D := { ts := [.sl .u8, .int], rt := [.sl .u8, .sl .u8, .int], pre := some (fun a => a.1.length <= 1000000), ret := fun a => ((tkF a.1 a.2.1).1, (tkF a.1 a.2.1).2.1, (tkF a.1 a.2.1).2.2, ()) }
theorem d2r : a0v.ok Tp 298 := Con.prove (c := a0v) EF Z0 Kb (H := H0) (n := 2) fun (a : HL D a0v.ts) (hp : a0v.holds a) =>
 have hp : a.1.length <= 1000000 := hp
 bq (decide (a.2.1 < 0)) (fun h1 => (by simp only [a0v, tkF, h1, B5] : some (([] : List UInt8), ([] : List UInt8), (2 : Int), ()) = some (a0v.ret a))) (fun h1 =>
 brL fun _ : a.1.length <= d4 =>
 bq (decide ((a.1.length : Int) < a.2.1)) (fun h3 => (by simp only [a0v, tkF, h1, h3, B5, B8] : some (([] : List UInt8), ([] : List UInt8), (3 : Int), ()) = some (a0v.ret a))) (fun h3 =>
 have g1 : (0 : Int) <= a.2.1 := U2.1 (A9 h1)
 have g3 : a.2.1 <= (a.1.length : Int) := U2.1 (A9 h3)
 bN (decide ((0 : Int) <= 0) && (decide (0 <= a.2.1) && decide (a.2.1 <= (a.1.length : Int)))) (by rw [F6 g1, F6 g3]; rfl) (
 bN (decide (0 <= a.2.1) && (decide (a.2.1 <= (a.1.length : Int)) && decide ((a.1.length : Int) <= (a.1.length : Int)))) (by rw [F6 g1, F6 g3, F6 (Z5 _)]; rfl) (
 pQ ((List.drop 0 (take (Int.toNat a.2.1) a.1)).length <= 1000000) (by rw [N8, C4]; exact D5 (T3 _ _) hp) (
 pQ ((List.drop (Int.toNat a.2.1) (take a.1.length a.1)).length <= 1000000) (by rw [H7, C4]; exact D5 (Nat.sub_le _ _) (D5 (T3 _ _) hp)) (
 (by simp only [a0v, tkF, h1, h3, B8, N8, D1] : some (List.drop 0 (take (Int.toNat a.2.1) a.1), List.drop (Int.toNat a.2.1) (take a.1.length a.1), (0 : Int), ()) = some (a0v.ret a))))))))
def HU {α : Type} : α -> Nat -> Nat -> Option (Hint D) := fun _ _ _ => some (.unr 12)
abbrev Γn := i5 noC 286 a3a
def Kn : n3 EF Tp Γn noO := K0.c c6f
def N (x : Int) : List UInt8 := (a3a.ret (x, ())).1
def i4 (x : Int) : (N x).length <= 40 := by
 show (c0o (x, ())).1.length <= 40
 unfold c0o
 cases decide (x < 0) with
 | true => simp
 | false =>
  cases decide (9007199254740991 < x) with
  | true => simp
  | false =>
   have : (a1e x.toNat).length <= 8 := b4a; show (b5u x.toNat).length <= 40; unfold b5u; rw [I3]; omega
def a1f (d : Dig) : d.l.length <= 40 := by rw [d.h]; omega
def j3 {xs ys : List UInt8} (k : Nat) (h1 : xs.length <= 40 * k) (h2 : ys.length <= 40) (hk : k <= 10000) : Nat.ble ((xs.length + ys.length) * j0 Tp 5) d4 = true := by
 rw [mb5]; exact D3 (by unfold d4; omega)
def i7 {xs ys : List UInt8} {k : Nat} (h1 : xs.length <= 40 * k) (h2 : ys.length <= 40) : (xs ++ ys).length <= 40 * (k + 1) := by rw [B7]; omega
def j4 (m : Mark) : List UInt8 := N m.seq ++ m.dig.l
def d5 (s : i6) : List UInt8 := N s.seq ++ (s.dig.l ++ N s.view)
def d9 (c : b8) : List UInt8 := N c.node ++ (N c.view ++ (N c.low ++ (N (c.mz.length : Nat) ++ (c.mz.flatMap j4 ++ (N (c.p.length : Nat) ++ (c.p.flatMap d5 ++ (N (c.q.length : Nat) ++ c.q.flatMap d5)))))))
section
variable (n v : Int) (b : UInt8)
def w1 : List UInt8 := [] ++ N n
def w2 : List UInt8 := w1 n ++ N v
def w3 : List UInt8 := w2 n v ++ N 0
def w4 : List UInt8 := w3 n v ++ N (1 : Nat)
def w5 : List UInt8 := w4 n v ++ N 0
def w6 : List UInt8 := w5 n v ++ (d8p 9).l
def w7 : List UInt8 := w6 n v ++ N (0 : Nat)
def w8 : List UInt8 := w7 n v ++ N (1 : Nat)
def w9 : List UInt8 := w8 n v ++ N 1
def w10 : List UInt8 := w9 n v ++ (a8z b 1).l
def w11 : List UInt8 := w10 n v b ++ N 0
def f6s : w11 n v b = d9 (m6 n v b) := by
 simp [w11, w10, w9, w8, w7, w6, w5, w4, w3, w2, w1, d9, m6, j4, d5, B6]
def l1 : (w1 n).length <= 40 * 1 := i7 (k := 0) (B9 _) (i4 _)
def l2 : (w2 n v).length <= 40 * 2 := i7 (l1 n) (i4 _)
def l3 : (w3 n v).length <= 40 * 3 := i7 (l2 n v) (i4 _)
def l4 : (w4 n v).length <= 40 * 4 := i7 (l3 n v) (i4 _)
def l5 : (w5 n v).length <= 40 * 5 := i7 (l4 n v) (i4 _)
def l6 : (w6 n v).length <= 40 * 6 := i7 (l5 n v) (a1f _)
def l7 : (w7 n v).length <= 40 * 7 := i7 (l6 n v) (i4 _)
def l8 : (w8 n v).length <= 40 * 8 := i7 (l7 n v) (i4 _)
def l9 : (w9 n v).length <= 40 * 9 := i7 (l8 n v) (i4 _)
def l10 : (w10 n v b).length <= 40 * 10 := i7 (l9 n v) (a1f _)
def l11 : (w11 n v b).length <= 40 * 11 := i7 (l10 n v b) (i4 _)
end
def b4b (i : Int × Int × UInt8) : Prop := 1 <= i.1 /\ i.1 <= 28 /\ 1 <= i.2.1 /\ i.2.1 <= 255
def a3f : Con D := { ts := [.st 3], rt := [.sl .u8, .int], pre := some (fun a => ∃ i : Int × Int × UInt8, a = (m6 i.1 i.2.1 i.2.2, ()) /\ b4b i), ret := fun a => (d9 a.1, 0, ()) }
abbrev d5m (b : UInt8) : Int := Option.getD (a0f (E := D) (.st 1) .int (j6 (E := D) (.st 1) .int (j6 (E := D) (.st 1) .int [] ⟨1, a8z b 1⟩ (Option.getD (a0f (E := D) (.st 1) .int [] ⟨1, a8z b 1⟩) (0 : Int))) ⟨1, a8z b 1⟩ (wrap .i64 (Option.getD (a0f (E := D) (.st 1) .int [] ⟨1, a8z b 1⟩) (0 : Int) + 1))) ⟨1, a8z b 1⟩) 0
def c9n (b : UInt8) : d5m b = 1 := by
 simp [d5m, a0f, j6, a0y, a2t]; decide
abbrev d5n (b : UInt8) : Int := Option.getD (a0f (E := D) (.st 1) .int (j6 (E := D) (.st 1) .int (j6 (E := D) (.st 1) .int [] ⟨1, a8z b 1⟩ (Option.getD (a0f (E := D) (.st 1) .int [] ⟨1, a8z b 1⟩) (0 : Int))) ⟨1, a8z b 1⟩ (wrap .i64 (Option.getD (a0f (E := D) (.st 1) .int (j6 (E := D) (.st 1) .int [] ⟨1, a8z b 1⟩ (Option.getD (a0f (E := D) (.st 1) .int [] ⟨1, a8z b 1⟩) (0 : Int))) ⟨1, a8z b 1⟩) (0 : Int) + 1))) ⟨1, a8z b 1⟩) 0
def c9o (b : UInt8) : d5n b = 1 := by
 simp [d5n, a0f, j6, a0y, a2t]; decide
def f6t : a3f.ok Tp 83 := Con.proveS (c := a3f) EF Z0 Kn (fun i : Int × Int × UInt8 => (m6 i.1 i.2.1 i.2.2, ())) b4b (fun a h => h) (H := HU) (n := 6) fun (i : Int × Int × UInt8) (hq : b4b i) =>
 bq (decide (1 <= i.1)) (fun h1 => bq (!decide (i.1 <= 28)) (fun h2 => (by have := hq.2.1; simp [this] at h2 : some ([], 2, ()) = some (a3f.ret (m6 i.1 i.2.1 i.2.2, ()))))
 (fun _ => bq (decide (1 <= i.2.1)) (fun h3 => bq (!decide (i.2.1 <= 1048576)) (fun h4 => (by have := hq.2.2.2; simp at h4; omega : some ([], 2, ()) = some (a3f.ret (m6 i.1 i.2.1 i.2.2, ()))))
 (fun _ =>
 have tl :=
 bN (Nat.ble ((length ([] : List UInt8) + (N i.1).length) * j0 Tp 5) d4) (j3 0 (B9 _) (i4 _) (by omega)) (
 bN (Nat.ble (((w1 i.1).length + (N i.2.1).length) * j0 Tp 5) d4) (j3 1 (l1 _) (i4 _) (by omega)) (
 bN (Nat.ble (((w2 i.1 i.2.1).length + (N 0).length) * j0 Tp 5) d4) (j3 2 (l2 _ _) (i4 _) (by omega)) (
 bN (Nat.ble (((w3 i.1 i.2.1).length + (N (1 : Nat)).length) * j0 Tp 5) d4) (j3 3 (l3 _ _) (i4 _) (by omega)) (
 bN (Nat.ble (((w4 i.1 i.2.1).length + (N 0).length) * j0 Tp 5) d4) (j3 4 (l4 _ _) (i4 _) (by omega)) (
 bN (Nat.ble (((w5 i.1 i.2.1).length + (d8p 9).l.length) * j0 Tp 5) d4) (j3 5 (l5 _ _) (a1f _) (by omega)) (
 bN (Nat.ble (((w6 i.1 i.2.1).length + (N (0 : Nat)).length) * j0 Tp 5) d4) (j3 6 (l6 _ _) (i4 _) (by omega)) (
 bN (Nat.ble (((w7 i.1 i.2.1).length + (N (1 : Nat)).length) * j0 Tp 5) d4) (j3 7 (l7 _ _) (i4 _) (by omega)) (
 bN (Nat.ble (((w8 i.1 i.2.1).length + (N 1).length) * j0 Tp 5) d4) (j3 8 (l8 _ _) (i4 _) (by omega)) (
 bN (Nat.ble (((w9 i.1 i.2.1).length + (a8z i.2.2 1).l.length) * j0 Tp 5) d4) (j3 9 (l9 _ _) (a1f _) (by omega)) (
 bN (Nat.ble (((w10 i.1 i.2.1 i.2.2).length + (N 0).length) * j0 Tp 5) d4) (j3 10 (l10 _ _ _) (i4 _) (by omega)) (
 (by rw [f6s]; rfl : some (w11 i.1 i.2.1 i.2.2, 0, ()) = some (a3f.ret (m6 i.1 i.2.1 i.2.2, ()))))))))))))))
 And.intro (bq (!decide (0 <= wrap .i64 (i.2.1 - 1))) (fun h5 => (by
  have k1 := hq.2.2.1; have k2 := hq.2.2.2; rw [IntWalk.i64_in _ (by omega)] at h5; simp at h5; omega : some ([], 2, ()) = some (a3f.ret (m6 i.1 i.2.1 i.2.2, ()))))
 (fun _ => bq (decide (1 < d5m i.2.2)) (fun h6 => (by rw [c9n] at h6; simp at h6 : some ([], 2, ()) = some (a3f.ret (m6 i.1 i.2.1 i.2.2, ()))))
 (fun _ => tl)))
 (bq (!decide (0 <= wrap .i64 (i.2.1 - 1))) (fun h5 => (by
  have k1 := hq.2.2.1; have k2 := hq.2.2.2; rw [IntWalk.i64_in _ (by omega)] at h5; simp at h5; omega : some ([], 2, ()) = some (a3f.ret (m6 i.1 i.2.1 i.2.2, ()))))
 (fun _ => bq (decide (1 < d5n i.2.2)) (fun h6 => (by rw [c9o] at h6; simp at h6 : some ([], 2, ()) = some (a3f.ret (m6 i.1 i.2.1 i.2.2, ()))))
 (fun _ => tl)))))
 (fun h3 => (by have := hq.2.2.1; simp at h3; omega : some ([], 2, ()) = some (a3f.ret (m6 i.1 i.2.1 i.2.2, ()))))))
 (fun h1 => (by have := hq.1; simp at h1; omega : some ([], 2, ()) = some (a3f.ret (m6 i.1 i.2.1 i.2.2, ()))))
def Con.weak {c : Con D} {f : Nat} (h : c.ok Tp f) (p : HL D c.ts -> Prop) (r : HL D c.ts -> HL D c.rt) (hr : ∀ a, p a -> c.holds a /\ c.ret a = r a) : ({ ts := c.ts, rt := c.rt, pre := some p, ret := r } : Con D).ok Tp f := by
 intro a G w vs hw hp hv
 obtain ⟨h1, h2⟩ := hr a hp
 have := h a G w vs hw h1 hv
 rw [h2] at this
 exact this
def a1v : Int -> List UInt8
 | .ofNat 0 => [0]
 | .ofNat (k + 1) => [1, UInt8.ofNat (k + 1)]
 | .negSucc _ => []
abbrev isS (x : Int) : Prop := ∃ k : Nat, k <= 255 /\ x = (k : Int)
def f6u {k : Nat} (h : k <= 255) : b5u k = a1v (k : Int) := by
 cases k with
 | zero => rfl
 | succ k =>
  show UInt8.ofNat (a1e (k + 1)).length :: a1e (k + 1) = [1, UInt8.ofNat (k + 1)]; have : a1e (k + 1) = [UInt8.ofNat (k + 1)] := by
   show p9 7 ((k + 1) / 256) ++ [UInt8.ofNat ((k + 1) % 256)] = _; rw [Nat.div_eq_of_lt (by omega), N3 (by omega)]; rfl
  rw [this]; rfl
def e4m : Con D := { ts := [.int], rt := [.sl .u8, .int], pre := some (fun a => isS a.1), ret := fun a => (a1v a.1, 0, ()) }
def e9u : e4m.ok Tp 286 := Con.weak c6f _ _ fun a ⟨k, hk, h⟩ => ⟨trivial, by
 obtain ⟨x, u⟩ := a
 have h : x = (k : Int) := h
 subst h
 show c0o ((k : Int), ()) = (a1v (k : Int), 0, ())
 unfold c0o
 have h1 : decide ((k : Int) < 0) = false := by simp
 have h2 : decide (9007199254740991 < (k : Int)) = false := by simp; omega
 show (bif decide ((k : Int) < 0) then _ else bif decide (9007199254740991 < (k : Int)) then _ else (b5u (Int.toNat (k : Int)), 0, ())) = _
 rw [h1, h2, G6, f6u hk]; rfl⟩
def tkS : List UInt8 -> Int × List UInt8 × Int
 | [] => (0, [], 3)
 | m :: r => bif Nat.beq m.toNat 0 then (0, r, 0) else match r with
  | [] => (0, [], 3)
  | y :: r' => ((y.toNat : Nat), r', 0)
def f3d : Con D := { ts := [.sl .u8], rt := [.int, .sl .u8, .int], pre := some (fun a => ∃ (k : Nat) (r : List UInt8), k <= 255 /\ r.length <= 1000 /\ a.1 = a1v (k : Int) ++ r), ret := fun a => R3 (tkS a.1) }
def g4d {k : Nat} {r : List UInt8} (hk : k <= 255) : tkN (a1v (k : Int) ++ r) = tkS (a1v (k : Int) ++ r) := by
 cases k with
 | zero => rfl
 | succ k =>
  show tkN (1 :: UInt8.ofNat (k + 1) :: r) = ((((UInt8.ofNat (k + 1)).toNat : Nat) : Int), r, 0); have hz : (UInt8.ofNat (k + 1)).toNat = k + 1 := by simp; omega
  have e1 : hdU (1 :: UInt8.ofNat (k + 1) :: r) = 1 := rfl; have e2 : tlU (1 :: UInt8.ofNat (k + 1) :: r) = UInt8.ofNat (k + 1) :: r := rfl; have e3 : a4f ((UInt8.ofNat (k + 1) :: r).take (1 : UInt8).toNat) = k + 1 := by
   show 256 * 0 + (UInt8.ofNat (k + 1)).toNat = k + 1; rw [hz]; omega
  have c1 : decide ((UInt8.ofNat (k + 1) :: r).length < (1 : UInt8).toNat) = false := by simp
  have c2 : decide (((UInt8.ofNat (k + 1) :: r).getD 0 0).toNat = 0) = false := by
   show decide ((UInt8.ofNat (k + 1)).toNat = 0) = false; rw [hz]; simp
  have c3 : decide (9007199254740991 < k + 1) = false := by simp; omega
  unfold tkN; rw [e1, e2, e3, c1, c2, c3, hz]
  rfl
def f6v : f3d.ok Tp 300 := Con.weak d2q _ _ fun a ⟨k, r, hk, hr, h⟩ => by
 obtain ⟨x, u⟩ := a
 have h : x = a1v (k : Int) ++ r := h
 subst h
 refine ⟨?_, ?_⟩
 ·show (a1v (k : Int) ++ r).length <= 1000000; have : (a1v (k : Int)).length <= 2 := by cases k <;> simp [a1v]
  rw [B7]; omega
 ·show R3 (tkN (a1v (k : Int) ++ r)) = R3 (tkS (a1v (k : Int) ++ r)); rw [g4d hk]
def a6r (m n : Int) : Con D := { ts := [.int], rt := [.bool], pre := some (fun a => m <= a.1 /\ a.1 <= n), ret := fun _ => (true, ()) }
def d8s : (a6r 1 28).ok Tp 153 := Con.prove (c := a6r 1 28) EF Z0 K0 (H := H0) (n := 2) fun (a : HL D (a6r 1 28).ts) (hp : (a6r 1 28).holds a) =>
 bq (decide (1 <= a.1)) (fun _ => (by rw [F6 hp.2]; rfl : some (decide (a.1 <= 28), ()) = some ((a6r 1 28).ret a))) (fun h => (absurd hp.1 (A9 h) : some (false, ()) = some ((a6r 1 28).ret a)))
def d8t : (a6r 0 1048576).ok Tp 191 := Con.prove (c := a6r 0 1048576) EF Z0 K0 (H := H0) (n := 2) fun (a : HL D (a6r 0 1048576).ts) (hp : (a6r 0 1048576).holds a) =>
 bq (decide (0 <= a.1)) (fun _ => (by rw [F6 hp.2]; rfl : some (decide (a.1 <= 1048576), ()) = some ((a6r 0 1048576).ret a))) (fun h => (absurd hp.1 (A9 h) : some (false, ()) = some ((a6r 0 1048576).ret a)))
abbrev b6t (i : Nat × Nat × UInt8) : b8 := m6 ((i.1 + 1 : Nat) : Int) ((i.2.1 + 1 : Nat) : Int) i.2.2
abbrev okN (i : Nat × Nat × UInt8) : Prop := i.1 + 1 <= 28 /\ i.2.1 + 1 <= 255
def c3z : Con D := { ts := [.st 3], rt := [.bool], pre := some (fun a => ∃ i : Int × Int × UInt8, a = (m6 i.1 i.2.1 i.2.2, ()) /\ b4b i), ret := fun _ => (true, ()) }
abbrev chF (i : Int × Int × UInt8) : Prop := some (false, ()) = some (c3z.ret (m6 i.1 i.2.1 i.2.2, ()))
def f6w : c3z.ok Tp 120 := Con.proveS (c := c3z) EF (Z0.side Kb) Kb (fun i : Int × Int × UInt8 => (m6 i.1 i.2.1 i.2.2, ())) b4b (fun a h => h) (H := HU) (n := 6) fun (i : Int × Int × UInt8) (hq : b4b i) =>
 bq (!bif decide (1 <= i.1) then decide (i.1 <= 28) else false) (fun h1 => (by rw [F6 hq.1, F6 hq.2.1] at h1; exact Bool.noConfusion h1 : chF i)) (fun _ =>
 bq (!bif decide (1 <= i.2.1) then decide (i.2.1 <= 1048576) else false) (fun h1 => (by rw [F6 hq.2.2.1, F6 (Z2 hq.2.2.2 (by decide))] at h1; exact Bool.noConfusion h1 : chF i)) (fun _ =>
 have hv : wrap .i64 (i.2.1 - 1) = i.2.1 - 1 := IntWalk.i64_in _ (by have := hq.2.2.1; have := hq.2.2.2; omega)
 have h0 : decide (0 <= wrap .i64 (i.2.1 - 1)) = true := by rw [hv]; have := hq.2.2.1; simp; omega
 And.intro (bq (!decide (0 <= wrap .i64 (i.2.1 - 1))) (fun h5 => (by rw [h0] at h5; exact Bool.noConfusion h5 : chF i))
  (fun _ => bq (decide (1 < d5m i.2.2)) (fun h6 => (by rw [c9n] at h6; simp at h6 : chF i)) (fun _ => (rfl : some (true, ()) = some (c3z.ret (m6 i.1 i.2.1 i.2.2, ()))))))
 (bq (!decide (0 <= wrap .i64 (i.2.1 - 1))) (fun h5 => (by rw [h0] at h5; exact Bool.noConfusion h5 : chF i))
  (fun _ => bq (decide (1 < d5n i.2.2)) (fun h6 => (by rw [c9o] at h6; simp at h6 : chF i)) (fun _ => (rfl : some (true, ()) = some (c3z.ret (m6 i.1 i.2.1 i.2.2, ()))))))))
abbrev Γx : Nat -> Option (Con D) := i5 (i5 (i5 (i5 (i5 (i5 (i5 (i5 Γh 286 e4m) 300 f3d) 298 a0v) 153 (a6r 1 28)) 191 (a6r 0 1048576)) 120 c3z) 152 a0d) 306 b3x
def Kw2 : n3 EF Tp Γx noO := (((((((Kh.c e9u).c f6v).c d2r).c d8s).c d8t).c f6w).c c3v).c e4a
def Zw : ZF Tp D := Z0.side Kw2
def e4n (k : Nat) : (a1v (k : Int)).length <= 2 := by cases k <;> simp [a1v]
abbrev Tk (l : List UInt8) : Prop := ∃ (k : Nat) (r : List UInt8), k <= 255 /\ r.length <= 1000 /\ l = a1v (k : Int) ++ r
def tkP {k n : Nat} {r : List UInt8} (hk : k <= 255) (hr : r.length <= n) (hn : n <= 1000) : Tk (a1v (k : Int) ++ r) := ⟨k, r, hk, D5 hr hn, rfl⟩
def lnS {k n : Nat} {r : List UInt8} (hr : r.length <= n) : (a1v (k : Int) ++ r).length <= n + 2 := by rw [B7]; have := e4n k; omega
def lnD {d : Dig} {n : Nat} {r : List UInt8} (hr : r.length <= n) : (d.l ++ r).length <= n + 32 := by rw [B7, d.h]; omega
abbrev isP (k : Nat) : Prop := isS ((k : Nat) : Int)
def a8i {k : Nat} (h : k <= 255) : isP k := ⟨k, h, rfl⟩
abbrev uN (k : Nat) : Int := (((UInt8.ofNat (k + 1)).toNat : Nat) : Int)
def c9p {k : Nat} (h : k + 1 <= 255) : uN k = ((k + 1 : Nat) : Int) := by unfold uN; congr 1; simp; omega
def d8u (p : d7 -> Prop) : Con D := { ts := [.st 7], rt := [.int], pre := some (fun a => p a.1), ret := fun _ => (0, ()) }
section
variable (i : Nat × Nat × UInt8)
abbrev f6x : List UInt8 := a1v ((0 : Nat) : Int) ++ []
abbrev f6y : List UInt8 := (a8z i.2.2 1).l ++ f6x
abbrev f6z : List UInt8 := a1v ((1 : Nat) : Int) ++ f6y i
abbrev f7a : List UInt8 := a1v ((1 : Nat) : Int) ++ f6z i
abbrev f7b : List UInt8 := a1v ((0 : Nat) : Int) ++ f7a i
abbrev qt9 : List UInt8 := (d8p 9).l ++ f7b i
abbrev qt8 : List UInt8 := a1v ((0 : Nat) : Int) ++ qt9 i
abbrev qt7 : List UInt8 := a1v ((1 : Nat) : Int) ++ qt8 i
abbrev qt6 : List UInt8 := a1v ((0 : Nat) : Int) ++ qt7 i
abbrev qt5 : List UInt8 := a1v (((i.2.1 + 1) : Nat) : Int) ++ qt6 i
abbrev qt4 : List UInt8 := a1v (((i.1 + 1) : Nat) : Int) ++ qt5 i
abbrev qt3 : List UInt8 := a1v ((1 : Nat) : Int) ++ qt4 i
abbrev qt2 : List UInt8 := a1v ((1 : Nat) : Int) ++ qt3 i
abbrev qt1 : List UInt8 := a1v (((i.1 + 1) : Nat) : Int) ++ qt2 i
abbrev qt0 : List UInt8 := a1v ((7 : Nat) : Int) ++ qt1 i
def g4e : (f6x ).length <= 2 := lnS (B9 0)
def e4o : (f6y i).length <= 34 := lnD (g4e )
def f3e : (f6z i).length <= 36 := lnS (e4o i)
def f3f : (f7a i).length <= 38 := lnS (f3e i)
def g4f : (f7b i).length <= 40 := lnS (f3f i)
def f7c : (qt9 i).length <= 72 := lnD (g4f i)
def g4g : (qt8 i).length <= 74 := lnS (f7c i)
def g4h : (qt7 i).length <= 76 := lnS (g4g i)
def g4i : (qt6 i).length <= 78 := lnS (g4h i)
def g4j : (qt5 i).length <= 80 := lnS (g4i i)
def g4k : (qt4 i).length <= 82 := lnS (g4j i)
def g4l : (qt3 i).length <= 84 := lnS (g4k i)
def g4m : (qt2 i).length <= 86 := lnS (g4l i)
def g7r : (qt1 i).length <= 88 := lnS (g4m i)
end
abbrev rdT (i : Nat × Nat × UInt8) : d7 := ⟨7, uN i.1, 1, 1, 0, 0, Dig.zero, [], ⟨0, [], 0, []⟩, 0, 0, ⟨uN i.1, uN i.2.1, 0, [⟨0, d8p 9⟩], [], [⟨1, a8z i.2.2 1, 0⟩]⟩, [], [], 0, 0, [], [], []⟩
def f7d {i : Nat × Nat × UInt8} (h : okN i) : rdT i = a0k (b6t i) := by
 unfold rdT a0k b6t m6
 rw [c9p (by have := h.1; omega), c9p h.2]
def f7e : (d8u fun n => ∃ i, n = a0k (b6t i) /\ okN i).ok Tp 39 := Con.proveS (c := d8u fun n => ∃ i, n = a0k (b6t i) /\ okN i) EF Zw Kw2 (fun i => (a0k (b6t i), ())) okN (fun a ⟨i, h, hq⟩ => ⟨i, by obtain ⟨x, u⟩ := a; have h : x = _ := h; rw [h], hq⟩) (H := HU) (n := 8) fun (i : Nat × Nat × UInt8) (hq : okN i) =>
 have q1 : i.1 + 1 <= 28 := hq.1
 have q2 : i.2.1 + 1 <= 255 := hq.2
 pQ ((1 : Int) <= (i.1 + 1 : Nat) /\ ((i.1 + 1 : Nat) : Int) <= 28) ⟨by omega, by omega⟩ (
 pQ (∃ j : Int × Int × UInt8, ((b6t i, ()) : b8 × Unit) = (m6 j.1 j.2.1 j.2.2, ()) /\ b4b j) ⟨((i.1 + 1 : Nat), (i.2.1 + 1 : Nat), i.2.2), rfl, by show (1 : Int) <= (i.1 + 1 : Nat); omega, by show ((i.1 + 1 : Nat) : Int) <= 28; omega, by show (1 : Int) <= (i.2.1 + 1 : Nat); omega, by show ((i.2.1 + 1 : Nat) : Int) <= 255; omega⟩ (
 bq (!(((i.1 + 1 : Nat) : Int) == ((i.1 + 1 : Nat) : Int))) (fun h => (by simp at h : some ((2 : Int), ()) = some ((0 : Int), ()))) (fun _ =>
 pQ (isP 7) (a8i (by omega)) (
 pQ (isP (i.1 + 1)) (a8i (by omega)) (
 pQ (isP 1) (a8i (by omega)) (
 pQ (isP 1) (a8i (by omega)) (
 pQ (isP (i.1 + 1)) (a8i (by omega)) (
 pQ (isP (i.2.1 + 1)) (a8i q2) (
 pQ (isP 0) (a8i (by omega)) (
 pQ (isP 1) (a8i (by omega)) (
 pQ (isP 0) (a8i (by omega)) (
 pQ (isP 0) (a8i (by omega)) (
 pQ (isP 1) (a8i (by omega)) (
 pQ (isP 1) (a8i (by omega)) (
 pQ (isP 0) (a8i (by omega)) (
 pQ (Tk (qt0 i)) (tkP (by omega) (g7r i) (by omega)) (
 pQ (Tk (qt1 i)) (tkP (by omega) (g4m i) (by omega)) (
 pQ (Tk (qt2 i)) (tkP (by omega) (g4l i) (by omega)) (
 pQ (Tk (qt3 i)) (tkP (by omega) (g4k i) (by omega)) (
 pQ (Tk (qt4 i)) (tkP (by omega) (g4j i) (by omega)) (
 pQ (Tk (qt5 i)) (tkP q2 (g4i i) (by omega)) (
 pQ (Tk (qt6 i)) (tkP (by omega) (g4h i) (by omega)) (
 pQ (Tk (qt7 i)) (tkP (by omega) (g4g i) (by omega)) (
 pQ (Tk (qt8 i)) (tkP (by omega) (f7c i) (by omega)) (
 pQ ((qt9 i).length <= 1000000) (D5 (f7c i) (by omega)) (
 pQ (Tk (f7b i)) (tkP (by omega) (f3f i) (by omega)) (
 pQ (Tk (f7a i)) (tkP (by omega) (f3e i) (by omega)) (
 pQ (Tk (f6z i)) (tkP (by omega) (e4o i) (by omega)) (
 pQ ((f6y i).length <= 1000000) (D5 (e4o i) (by omega)) (
 pQ (Tk (f6x )) (tkP (by omega) (B9 0) (by omega)) (
 bq (!dq (α := d7) (a0k (b6t i)) (rdT i)) (fun h => (by rw [f7d hq] at h; simp [dq] at h : some ((2 : Int), ()) = some ((0 : Int), ()))) (fun _ =>
 (rfl : some ((0 : Int), ()) = some ((0 : Int), ()))))))))))))))))))))))))))))))))))
abbrev mkD (f : Nat -> UInt8) : Dig := ⟨[f 0, f 1, f 2, f 3, f 4, f 5, f 6, f 7, f 8, f 9, f 10, f 11, f 12, f 13, f 14, f 15, f 16, f 17, f 18, f 19, f 20, f 21, f 22, f 23, f 24, f 25, f 26, f 27, f 28, f 29, f 30, f 31], rfl⟩
def f7f (d : Dig) : d = mkD fun j => d.l.getD j 0 := by
 obtain ⟨l, h⟩ := d
 match l, h with
 | [a0, a1, a2, a3, a4, a5, a6, a7, a8, a9, a10, a11, a12, a13, a14, a15, a16, a17, a18, a19, a20, a21, a22, a23, a24, a25, a26, a27, a28, a29, a30, a31], _ => rfl
abbrev b0f (from_ view node : Int) (d : Dig) : d7 := ⟨8, from_, 1, 1, view, 0, d, [], ⟨0, [], 0, []⟩, 0, node, ⟨0, 0, 0, [], [], []⟩, [], [], 0, 0, [], [], []⟩
abbrev AI := Nat × Nat × Nat × (Nat -> UInt8)
abbrev d2s (i : AI) : d7 := b0f ((i.1 + 1 : Nat) : Int) ((i.2.1 + 1 : Nat) : Int) ((i.2.2.1 + 1 : Nat) : Int) (mkD i.2.2.2)
abbrev okA (i : AI) : Prop := i.1 + 1 <= 28 /\ i.2.1 + 1 <= 255 /\ i.2.2.1 + 1 <= 28 /\ i.1 ≠ i.2.2.1
section
variable (i : AI)
abbrev qa6 : List UInt8 := (mkD i.2.2.2).l ++ []
abbrev qa5 : List UInt8 := a1v (((i.2.2.1 + 1) : Nat) : Int) ++ qa6 i
abbrev qa4 : List UInt8 := a1v (((i.2.1 + 1) : Nat) : Int) ++ qa5 i
abbrev qa3 : List UInt8 := a1v ((1 : Nat) : Int) ++ qa4 i
abbrev qa2 : List UInt8 := a1v ((1 : Nat) : Int) ++ qa3 i
abbrev qa1 : List UInt8 := a1v (((i.1 + 1) : Nat) : Int) ++ qa2 i
abbrev qa0 : List UInt8 := a1v ((8 : Nat) : Int) ++ qa1 i
def f7g : (qa6 i).length <= 32 := lnD (B9 0)
def g4n : (qa5 i).length <= 34 := lnS (f7g i)
def g4o : (qa4 i).length <= 36 := lnS (g4n i)
def g4p : (qa3 i).length <= 38 := lnS (g4o i)
def g4q : (qa2 i).length <= 40 := lnS (g4p i)
def g7s : (qa1 i).length <= 42 := lnS (g4q i)
end
abbrev rdA (i : AI) : d7 := b0f (uN i.1) (uN i.2.1) (uN i.2.2.1) (mkD i.2.2.2)
def f7h {i : AI} (h : okA i) : rdA i = d2s i := by
 unfold rdA d2s
 rw [c9p (by have := h.1; omega), c9p h.2.1, c9p (by have := h.2.2.1; omega)]
def f7i : (d8u fun n => ∃ i, n = d2s i /\ okA i).ok Tp 39 := Con.proveS (c := d8u fun n => ∃ i, n = d2s i /\ okA i) EF Zw Kw2 (fun i => (d2s i, ())) okA (fun a ⟨i, h, hq⟩ => ⟨i, by obtain ⟨x, u⟩ := a; have h : x = _ := h; rw [h], hq⟩) (H := HU) (n := 8) fun (i : AI) (hq : okA i) =>
 have q1 : i.1 + 1 <= 28 := hq.1
 have q2 : i.2.1 + 1 <= 255 := hq.2.1
 have q3 : i.2.2.1 + 1 <= 28 := hq.2.2.1
 have q4 : i.1 ≠ i.2.2.1 := hq.2.2.2
 pQ ((1 : Int) <= (i.1 + 1 : Nat) /\ ((i.1 + 1 : Nat) : Int) <= 28) ⟨by omega, by omega⟩ (
 pQ ((0 : Int) <= (i.2.1 + 1 : Nat) /\ ((i.2.1 + 1 : Nat) : Int) <= 1048576) ⟨by omega, by omega⟩ (
 bq (decide (0 < ((i.2.1 + 1 : Nat) : Int))) (fun _ =>
 pQ ((1 : Int) <= (i.2.2.1 + 1 : Nat) /\ ((i.2.2.1 + 1 : Nat) : Int) <= 28) ⟨by omega, by omega⟩ (
 bq (!(((i.2.2.1 + 1 : Nat) : Int) != ((i.1 + 1 : Nat) : Int))) (fun h => (by
  have h : ((i.2.2.1 + 1 : Nat) : Int) = ((i.1 + 1 : Nat) : Int) := by simpa using h
  exact absurd (by omega) q4 : some ((2 : Int), ()) = some ((0 : Int), ()))) (fun _ =>
 pQ (isP 8) (a8i (by omega)) (
 pQ (isP (i.1 + 1)) (a8i (by omega)) (
 pQ (isP 1) (a8i (by omega)) (
 pQ (isP 1) (a8i (by omega)) (
 pQ (isP (i.2.1 + 1)) (a8i (by omega)) (
 pQ (isP (i.2.2.1 + 1)) (a8i (by omega)) (
 pQ (Tk (qa0 i)) (tkP (by omega) (g7s i) (by omega)) (
 pQ (Tk (qa1 i)) (tkP (by omega) (g4q i) (by omega)) (
 pQ (Tk (qa2 i)) (tkP (by omega) (g4p i) (by omega)) (
 pQ (Tk (qa3 i)) (tkP (by omega) (g4o i) (by omega)) (
 pQ (Tk (qa4 i)) (tkP (by omega) (g4n i) (by omega)) (
 pQ (Tk (qa5 i)) (tkP (by omega) (f7g i) (by omega)) (
 pQ ((qa6 i).length <= 1000000) (D5 (f7g i) (by omega)) (
 bq (!dq (α := d7) (d2s i) (rdA i)) (fun h => (by rw [f7h hq] at h; simp [dq] at h : some ((2 : Int), ()) = some ((0 : Int), ()))) (fun _ =>
 (rfl : some ((0 : Int), ()) = some ((0 : Int), ())))))))))))))))))))
 (fun h => (by have := A9 h; omega : some ((2 : Int), ()) = some ((0 : Int), ())))))
abbrev KS : List ES := [.box 93 [.nm 1, .dat (.st 0), .dat .int, .dat .int, .dat .int, .nm 2, .nm 3], .box 107 [.nm 4, .nm 5, .dat .int], .map .int (.st 8), .map (.st 10) (.st 9), .map .dig .str, .map .str .bool]
abbrev KD := EL D KS
abbrev isW (c : b8) : Prop := ∃ i : Int × Int × UInt8, c = m6 i.1 i.2.1 i.2.2 /\ b4b i
abbrev e4p (n : d7) : Prop := ∃ i, n = a0k (b6t i) /\ okN i
abbrev f3g (n : d7) : Prop := ∃ i, n = d2s i /\ okA i
abbrev b4c (n : d7) : Prop := e4p n ∨ f3g n
def g4r : (d8u b4c).ok Tp 39 := by
 intro a G w vs hw hp hv
 rcases (hp : e4p a.1 ∨ f3g a.1) with h | h
 ·exact f7e a G w vs hw h hv
 ·exact f7i a G w vs hw h hv
abbrev Γc : Nat -> Option (Con D) := i5 (i5 (i5 (i5 (i5 (i5 (i5 (i5 (i5 noC 40 a7q) 46 a7c) 59 u9) 60 b1x) 95 b3v) 96 b3w) 83 a3f) 43 a3r) 39 (d8u b4c)
abbrev Δc : Nat -> Option (i8 D) := u6 (u6 noO 50 b2o) 21 c0j
def Kc : n3 EF Tp Γc Δc := ((((((((((K0.c d2m).c c5z).c a9v).c d2n).c e3y).c e3z).c f6t).c b8f).c g4r).o e3x).o f2u
def e9v (xs : List Int) (w : Int) : LH D := ⟨Nat, [8], fun i => [iv i], fun i => i <= xs.length /\ ∀ x ∈ xs.take i, x ≠ w, fun i => xs.length - i, [], fun _ => [], [], fun _ => []⟩
def dlF (xs : List Int) (w : Int) (j : Nat) : List Int := (xs.take j).filter fun x => !(x == w)
def dlL (xs : List Int) (w : Int) (j : Nat) : List Int := dlF xs w j ++ xs.drop (dlF xs w j).length
def e9w (xs : List Int) (w : Int) : LH D := ⟨Nat, [0, 5, 6], fun j => [.own 0, iv (dlF xs w j).length, iv j], fun j => j <= xs.length, fun j => xs.length - j, [(.sl 0, .int, 3)], fun j => [.arr .int 3 (dlL xs w j)], [], fun _ => []⟩
def a3j (c : a0c) (w : Int) : List Int := bif a0j c != 0 then [] else c.nodes.filter fun x => !(x == w)
def a6s : Con D := { ts := [.st 0, .int], rt := [.sl .int], pre := some (fun a => a.1.nodes.length <= 1000000), ret := fun a => (a3j a.1 a.2.1, ()) }
def g7t (a : HL D a6s.ts) : Nat -> Nat -> Option (Hint D) := fun f r => match f, r with | 180, 2 => some (.inv (e9v a.1.nodes a.2.1)) | 141, 5 => some (.inv (e9w a.1.nodes a.2.1)) | _, _ => none
section
variable {xs : List Int} {w : Int}
def c6h {j : Nat} (h : j <= xs.length) : (dlF xs w j).length <= j := D5 (O6 _ _) (by rw [C4]; omega)
def e9x {j : Nat} (h : j <= xs.length) : (dlL xs w j).length = xs.length := by
 unfold dlL; rw [B7, H7]; have := c6h (w := w) h; omega
def e9y {j : Nat} (h : j < xs.length) : (dlL xs w j).getD j 0 = xs.getD j 0 := by
 have h1 := c6h (w := w) (O0 h)
 unfold dlL
 rw [B3, G7 h1, I7, B3, show (dlF xs w j).length + (j - (dlF xs w j).length) = j from by omega]
def f3h {j : Nat} (h : j < xs.length) (e : (!(xs.getD j 0 == w)) = true) : dlF xs w (j + 1) = dlF xs w j ++ [xs.getD j 0] := by
 unfold dlF
 have e' : xs[j] ≠ w := by simpa [B3, B2 h] using e
 rw [D9 h, L4]
 simp [B3, B2 h, e']
def e4q {j : Nat} (h : j < xs.length) (e : (!(xs.getD j 0 == w)) = false) : dlF xs w (j + 1) = dlF xs w j := by
 unfold dlF
 have e' : xs[j] = w := by simpa [B3, B2 h] using e
 rw [D9 h, L4]
 simp [e']
def g4s {j : Nat} (h : j < xs.length) (e : (!(xs.getD j 0 == w)) = true) : (dlL xs w j).set (dlF xs w j).length (xs.getD j 0) = dlL xs w (j + 1) := by
 have h1 := c6h (w := w) (O0 h)
 unfold dlL
 rw [f3h h e, G4 _ _ (B9 _), W0, G9 (by omega), List.set_cons_zero, B7, B6]
 rfl
def g4t {i : Nat} (h : ∀ x ∈ xs.take i, x ≠ w) (e : xs.getD i 0 = w) (hi : i < xs.length) : dlF xs w (i + 1) = xs.take i /\ dlL xs w (i + 1) = xs := by
 have h1 : dlF xs w (i + 1) = xs.take i := by
  rw [e4q hi (by rw [e]; simp)]
  exact R9.2 fun x hx => by simpa using h x hx
 refine ⟨h1, ?_⟩
 unfold dlL
 rw [h1, C4, J0 (O0 hi), E6]
def wr1 {i : Nat} (h : i <= 1000000) : wrap .i64 ((i : Int) + 1) = ((i + 1 : Nat) : Int) := by rw [<- Int.natCast_succ]; exact n9 (by omega)
end
def e4r : a6s.ok Tp 92 := Con.prove (c := a6s) EF Z0 (K0.c a9v) (H := g7t) (n := 4) fun (a : HL D a6s.ts) (hp : a6s.holds a) =>
 have hp : a.1.nodes.length <= 1000000 := hp
 bq (a0j a.1 != 0) (fun h1 => (by simp only [a6s, a3j, h1, B5] : some ([], ()) = some (a6s.ret a))) (fun h1 =>
 have hr : a6s.ret a = (a.1.nodes.filter fun x => !(x == a.2.1), ()) := by simp only [a6s, a3j, h1, B8]
 Nl.mk (xs := a.1.nodes) (fun h2 =>
  And.intro (⟨(0 : Nat), rfl, rfl, rfl, C0 _, fun x hx => by simp at hx⟩ : Ent (e9v a.1.nodes a.2.1) [SV.i IntKind.i64 (0 : Int)] [] []) (
  fun (i : Nat) (_ : i <= a.1.nodes.length /\ ∀ x ∈ a.1.nodes.take i, x ≠ a.2.1) =>
  (by rw [hr, h2]; rfl : some ([], ()) = some (a6s.ret a)))) (
 bN (Nat.ble ((0 + a.1.nodes.length) * j0 Tp 3) d4) (by rw [mb3]; exact D3 (by unfold d4; omega)) (
 And.intro (⟨(0 : Nat), rfl, rfl, rfl, C0 _, fun x hx => by simp at hx⟩ : Ent (e9v a.1.nodes a.2.1) [SV.i IntKind.i64 (0 : Int)] [] []) (
 fun (i : Nat) (hI : i <= a.1.nodes.length /\ ∀ x ∈ a.1.nodes.take i, x ≠ a.2.1) =>
 bq (decide ((i : Int) < (a.1.nodes.length : Int))) (fun h3 =>
  have hi : i < a.1.nodes.length := by have := A6 h3; omega
  bN (iX (i : Int) (a.1.nodes.length : Int)) (by simp; omega) (
  bq (a.1.nodes.getD i 0 == a.2.1) (fun h4 =>
   have h4 : a.1.nodes.getD i 0 = a.2.1 := by simpa using h4
   have h0 := g4t hI.2 h4 hi
   And.intro (⟨(i + 1 : Nat), by
     show [SV.own 0, SV.i IntKind.i64 (i : Int), SV.i IntKind.i64 (wrap IntKind.i64 ((i : Int) + 1))] = [SV.own 0, iv (dlF a.1.nodes a.2.1 (i + 1)).length, iv ((i + 1 : Nat) : Int)]; rw [h0.1, C4, J0 hI.1, wr1 (by omega)], by
     show _ = [HB.arr .int 3 (dlL a.1.nodes a.2.1 (i + 1))]; rw [h0.2], rfl, hi⟩ : Ent (e9w a.1.nodes a.2.1) [SV.own 0, SV.i IntKind.i64 (i : Int), SV.i IntKind.i64 (wrap IntKind.i64 ((i : Int) + 1))] [HB.arr .int 3 a.1.nodes] []) (
   fun (j : Nat) (hj : j <= a.1.nodes.length) =>
   have hl := e9x (w := a.2.1) hj; have hf := c6h (w := a.2.1) hj
   bq (decide ((j : Int) < ((dlL a.1.nodes a.2.1 j).length : Int))) (fun h6 =>
    have hj' : j < a.1.nodes.length := by have := A6 h6; omega
    have hg := e9y (w := a.2.1) hj'
    bN (iX (j : Int) ((dlL a.1.nodes a.2.1 j).length : Int)) (by simp; omega) (
    bq (!(dlL a.1.nodes a.2.1 j).getD j 0 == a.2.1) (fun h7 =>
     have h7 : (!(a.1.nodes.getD j 0 == a.2.1)) = true := by rw [<- hg]; exact h7
     bN (iX ((dlF a.1.nodes a.2.1 j).length : Int) ((dlL a.1.nodes a.2.1 j).length : Int)) (by simp; omega) (
     (⟨(j + 1 : Nat), by
      show _ = [SV.own 0, iv (dlF a.1.nodes a.2.1 (j + 1)).length, iv ((j + 1 : Nat) : Int)]; rw [f3h hj' h7, B7, wr1 (by omega), wr1 (by omega)]; rfl, by
      show _ = [HB.arr .int 3 (dlL a.1.nodes a.2.1 (j + 1))]; rw [<- g4s hj' h7]; exact congrArg (fun l => [HB.arr .int 3 l]) (congrArg _ hg), rfl, hj', by show a.1.nodes.length - (j + 1) < a.1.nodes.length - j; omega⟩ : Rnd (e9w a.1.nodes a.2.1) j [SV.own 0, SV.i IntKind.i64 (wrap IntKind.i64 (((dlF a.1.nodes a.2.1 j).length : Int) + 1)), SV.i IntKind.i64 (wrap IntKind.i64 ((j : Int) + 1))] [HB.arr .int 3 ((dlL a.1.nodes a.2.1 j).set (dlF a.1.nodes a.2.1 j).length ((dlL a.1.nodes a.2.1 j).getD j 0))] []))) (fun h7 =>
     have h7 : (!(a.1.nodes.getD j 0 == a.2.1)) = false := by rw [<- hg]; exact h7
     (⟨(j + 1 : Nat), by
      show _ = [SV.own 0, iv (dlF a.1.nodes a.2.1 (j + 1)).length, iv ((j + 1 : Nat) : Int)]; rw [e4q hj' h7, wr1 (by omega)], by
      show _ = [HB.arr .int 3 (dlL a.1.nodes a.2.1 (j + 1))]; unfold dlL; rw [e4q hj' h7], rfl, hj', by show a.1.nodes.length - (j + 1) < a.1.nodes.length - j; omega⟩ : Rnd (e9w a.1.nodes a.2.1) j [SV.own 0, SV.i IntKind.i64 ((dlF a.1.nodes a.2.1 j).length : Int), SV.i IntKind.i64 (wrap IntKind.i64 ((j : Int) + 1))] [HB.arr .int 3 (dlL a.1.nodes a.2.1 j)] [])))) (fun h6 =>
    have hj' : j = a.1.nodes.length := by have := A9 h6; omega
    bN (decide (0 <= ((dlF a.1.nodes a.2.1 j).length : Int)) && decide (((dlF a.1.nodes a.2.1 j).length : Int) <= ((dlL a.1.nodes a.2.1 j).length : Int))) (by simp; omega) (
    bN (Nat.ble (dlF a.1.nodes a.2.1 j).length (dlL a.1.nodes a.2.1 j).length) (D3 (by omega)) (
    bN (decide ((0 : Int) <= 0) && (decide (0 <= ((dlF a.1.nodes a.2.1 j).length : Int)) && decide (((dlF a.1.nodes a.2.1 j).length : Int) <= (((dlL a.1.nodes a.2.1 j).take (dlF a.1.nodes a.2.1 j).length ++ replicate ((dlL a.1.nodes a.2.1 j).length - (dlF a.1.nodes a.2.1 j).length) (0 : Int)).length : Int)))) (by simp; omega) (
    (by
     rw [hr]; have e : dlF a.1.nodes a.2.1 j = a.1.nodes.filter fun x => !(x == a.2.1) := by unfold dlF; rw [hj', D1]
     have e2 : (dlL a.1.nodes a.2.1 j).take (dlF a.1.nodes a.2.1 j).length = dlF a.1.nodes a.2.1 j := by unfold dlL; rw [K5]
     rw [e2, K5, e]; rfl : some (((dlL a.1.nodes a.2.1 j).take (dlF a.1.nodes a.2.1 j).length ++ replicate ((dlL a.1.nodes a.2.1 j).length - (dlF a.1.nodes a.2.1 j).length) (0 : Int)).take (dlF a.1.nodes a.2.1 j).length, ()) = some (a6s.ret a))))))))
   (fun h4 => (⟨(i + 1 : Nat), by
     show [SV.i IntKind.i64 (wrap IntKind.i64 ((i : Int) + 1))] = [iv ((i + 1 : Nat) : Int)]; rw [wr1 (by omega)], rfl, rfl, ⟨hi, fun x hx => by
     rw [D9 hi, D4] at hx; rcases hx with hx | hx
     ·exact hI.2 x hx
     ·rw [F3] at hx; subst hx; simpa [B3, B2 hi] using h4⟩, by show a.1.nodes.length - (i + 1) < a.1.nodes.length - i; omega⟩ : Rnd (e9v a.1.nodes a.2.1) i [SV.i IntKind.i64 (wrap IntKind.i64 ((i : Int) + 1))] [] []))))
 (fun h3 => (by
  rw [hr]; have hi : i = a.1.nodes.length := by have := A9 h3; omega
  have : (a.1.nodes.filter fun x => !(x == a.2.1)) = a.1.nodes := R9.2 fun x hx => by
   have := hI.2 x (by rw [hi, D1]; exact hx); simpa using this
  rw [this]; rfl : some (a.1.nodes, ()) = some (a6s.ret a)))))))
def e9z : e2w Tp 45 where
 nil := fun w => Go.Proofs.AnyM.slices_Sort_int_none Go.Proofs.Tryz.sortA none 0 w
 run := fun b off cap zs w hH hb hl => by
  refine (Go.Proofs.AnyM.slices_Sort_int Go.Proofs.Tryz.sortA b off cap zs w hH hb (by unfold d4 at hl; omega)).mono ?_
  rintro e w' ⟨rfl, n, os, rfl⟩; refine ⟨rfl, n, os, ?_⟩; have : (zs.mergeSort fun x y => decide (x <= y)) = t8 zs := c3k (M1 zs); rw [this]
abbrev Γk : Nat -> Option (Con D) := i5 Γc 92 a6s
def Kk : n3 EF Tp Γk Δc := Kc.c e4r
def Zk : ZF Tp D := Z0.side Kk
abbrev f3i (Δ : Nat -> Option (i8 D)) (H : Nat -> Nat -> Option (Hint D)) (n : Nat) : j7 D := f5p 45 3 (b9v 53 94 (a0g EF Zk Γk Δ H n))
def e4s {Δ : Nat -> Option (i8 D)} (h : n3 EF Tp Γk Δ) (H : Nat -> Nat -> Option (Hint D)) (n : Nat) : j5 Tp (f3i Δ H n) := e8z e9z (a9s a9t (m7 Zk h n))
def nx {κ : Type} {left : List κ} {a : Prop} {b : κ -> List κ -> Prop} (h0 : left = [] -> a) (h1 : ∀ x rest, (∃ l1 l2, left = l1 ++ x :: l2 /\ rest = l1 ++ l2) -> b x rest) : Nx left a b := ⟨h0, fun l1 x l2 h => h1 x (l1 ++ l2) ⟨l1, l2, h, rfl⟩⟩
def c9q : u5 := ⟨⟨0, 0, 0, [], [], []⟩, Dig.zero⟩
def c9r : Ack := ⟨0, Dig.zero⟩
abbrev kCr (k : KD) : a0c := k.1.1
abbrev kSf (k : KD) : Int := k.1.2.1
abbrev kGr (k : KD) : Int := k.1.2.2.1
abbrev kEp (k : KD) : Int := k.1.2.2.2.1
abbrev kCh (k : KD) : List (Int × u5) := k.2.2.1
abbrev kAk (k : KD) : List (x7 × Ack) := k.2.2.2.1
abbrev kSn (k : KD) : List (Dig × List UInt8) := k.2.2.2.2.1
abbrev kMo (k : KD) : List (List UInt8 × Bool) := k.2.2.2.2.2.1
abbrev f7j (k : KD) (l : List (x7 × Ack)) : KD := (k.1, k.2.1, k.2.2.1, l, k.2.2.2.2)
abbrev c0q (k : KD) (l : List (Int × u5)) : KD := (k.1, k.2.1, l, k.2.2.2)
abbrev a1m (k : KD) (b : List UInt8) : KD := (k.1, (wrap .i64 (k.2.1.1 + 1), ()), k.2.2.1, k.2.2.2.1, bkS b (kSn k), bkM b (kSn k) (kMo k), ())
abbrev sdO (l : List (Int × u5)) (x : Int) : Option u5 := a0f (E := D) .int (.st 8) l x
abbrev sd (l : List (Int × u5)) (x : Int) : u5 := (sdO l x).getD c9q
abbrev akG (l : List (x7 × Ack)) (p : x7) : Ack := (a0f (E := D) (.st 10) (.st 9) l p).getD c9r
abbrev okC (c : b8) : Prop := c.mz.length <= 1000000 /\ c.p.length <= 1000000 /\ c.q.length <= 1000000
def a1g (c : a0c) : Int := (b5s (c, ())).1
structure okK (k : KD) : Prop where
  nodes : (kCr k).nodes.length <= 1000000
  s1 : 1 <= a1g (kCr k)
  s2 : a1g (kCr k) <= 1000000
  len : (kCh k).length <= 1000
  ch : ∀ p ∈ kCh k, okC p.2.change /\ -1000000 <= p.1 /\ p.1 <= 1000000
def d5o {l : List (Int × u5)} {x : Int} {y : u5} (h : sdO l x = some y) : (x, y) ∈ l := by
 replace h : @a0y Int (Ty.dec D .int) u5 l x = some y := h
 induction l with
 | nil => cases h
 | cons p r ih =>
  unfold a0y at h; by_cases e : p.1 = x
  ·rw [F8 e] at h; have : p = (x, y) := Prod.ext e (I9 h); rw [this]; exact E7
  ·rw [F7 e] at h; exact D7 _ (ih h)
def d2t {k : KD} (h : okK k) (x : Int) : okC (sd (kCh k) x).change := by
 unfold sd
 cases e : sdO (kCh k) x with
 | none => exact ⟨by show 0 <= _; omega, by show 0 <= _; omega, by show 0 <= _; omega⟩
 | some y => exact (h.ch _ (d5o e)).1
def a0t (k : KD) (n : d7) : (Int × Unit) × KD :=
 bif decide (n.view < (akG (kAk k) ⟨n.sq, n.node⟩).view) then ((190, ()), k)
 else bif (bif (akG (kAk k) ⟨n.sq, n.node⟩).view == n.view then !((akG (kAk k) ⟨n.sq, n.node⟩).view == n.view && (decide ((akG (kAk k) ⟨n.sq, n.node⟩).dig = n.dig) && true)) else false) then ((151, ()), k)
 else ((0, ()), f7j k (j6 (E := D) (.st 10) (.st 9) (kAk k) ⟨n.sq, n.node⟩ ⟨n.view, n.dig⟩))
def a5c : i8 D := { ash := [.nm 0, .dat (.st 7)], es := KS, rsh := [.dat .int], pes := KS, post := fun a k => a0t k a.1 }
def c9s : a5c.ok EF Tp 41 := i8.prove (c := a5c) EF Zk Kk (H := fun _ _ _ _ => none) (n := 1) fun (a : CL D a5c.ash) (k : KD) (_ : a5c.holds a k) =>
 b1n (br_ (fun h1 => a5c.lf a k (ct h1 (rfl))) (fun h1 => br_ (fun h2 => a5c.lf a k (cf h1 (ct h2 (rfl)))) (fun h2 => a5c.lf a k (cf h1 (cf h2 (rfl))))))
def c4a : i8 D := { ash := [.nm 0, .dat (.st 3)], es := KS, rsh := [.dat (.st 8), .dat .bool], pes := KS, pre := some (fun a _ => isW a.1), post := fun a k => (((⟨a.1, a4d (d9 a.1)⟩ : u5), true, ()), a1m k (d9 a.1)) }
def b4d {c : b8} (h : isW c) : okC c := by obtain ⟨i, rfl, _⟩ := h; exact ⟨by show 1 <= _; omega, by show 0 <= _; omega, by show 1 <= _; omega⟩
def d5p {c : b8} (h : isW c) : (d9 c).length <= 65536 := by obtain ⟨i, rfl, _⟩ := h; rw [<- f6s]; have := l11 i.1 i.2.1 i.2.2; omega
def f7k : c4a.ok EF Tp 42 := i8.prove (c := c4a) EF Zk Kk (H := fun _ _ _ _ => none) (n := 3) fun (a : CL D c4a.ash) (k : KD) (hp : c4a.holds a k) =>
 have hp : isW a.1 := hp
 have hc := b4d hp
 pQ (∃ i : Int × Int × UInt8, (a.1, ()) = (m6 i.1 i.2.1 i.2.2, ()) /\ b4b i) (by obtain ⟨i, h1, h2⟩ := hp; exact ⟨i, by rw [h1], h2⟩) (
 pQ ((d9 a.1).length <= 65536) (d5p hp) (
 pQ (a.1.mz.length <= 1000000) hc.1 (
 pQ (a.1.p.length <= 1000000) hc.2.1 (
 pQ (a.1.q.length <= 1000000) hc.2.2 (
 (rfl : some (((⟨a.1, a4d (d9 a.1)⟩ : u5), true, ()), a1m k (d9 a.1)) = some (c4a.post a k)))))))
def c0r : i8 D := { ash := [.nm 0, .dat .int], es := KS, rsh := [.dat (.st 3), .dat .bool], pes := KS, pre := some (fun _ k => okK k), post := fun a k => (((sd (kCh k) a.1).change, (sdO (kCh k) a.1).isSome, ()), k) }
def e4t : c0r.looks EF Tp 24 := i8.proveL (c := c0r) EF Zk (H := fun _ _ _ _ => none) (call := fun _ _ => a0g EF Zk Γk Δc (fun _ _ => none) 3) (fun _ _ => m7 Zk Kk 3) fun (a : CL D c0r.ash) (k : KD) (hp : c0r.holds a k) =>
 have hc := d2t hp a.1
 pQ ((sd (kCh k) a.1).change.mz.length <= 1000000) hc.1 (
 pQ ((sd (kCh k) a.1).change.p.length <= 1000000) hc.2.1 (
 pQ ((sd (kCh k) a.1).change.q.length <= 1000000) hc.2.2 (
 (rfl : some ((sd (kCh k) a.1).change, (sdO (kCh k) a.1).isSome, ()) = some (c0r.post a k).1))))
def z8 (k : KD) : List Int := (kCh k).map fun p : Int × u5 => p.1
def bhC (k : KD) (v : Int) (xs : List Int) : Nat := xs.countP fun x => decide (v <= (sd (kCh k) x).change.view)
def e4u (k : KD) (v : Int) : LH D := ⟨Nat × List Int, [4], fun i => [iv i.1], fun i => i.1 + bhC k v i.2 = bhC k v (z8 k), fun i => i.2.length, [], fun _ => [], [7], fun i => [.itr 2 2 3 .int i.2]⟩
def b4e : i8 D := { ash := [.nm 0, .dat .int], es := KS, rsh := [.dat .int], pes := KS, pre := some (fun _ k => okK k), post := fun a k => (((bhC k a.1 (z8 k) : Nat), ()), k) }
def f7l {k : KD} (h : okK k) (v : Int) : bhC k v (z8 k) <= 1000 := D5 O7 (by unfold z8; rw [C5]; exact h.len)
def d5q {k : KD} {v x : Int} {l1 l2 : List Int} : bhC k v (l1 ++ x :: l2) = bhC k v (l1 ++ l2) + (bif decide (v <= (sd (kCh k) x).change.view) then 1 else 0) := by
 unfold bhC
 rw [M3, M7, M3]
 cases decide (v <= (sd (kCh k) x).change.view) <;> simp <;> omega
def e4v : b4e.looks EF Tp 25 := i8.proveL (c := b4e) EF Zk (H := fun a k f r => match f, r with | 25, 4 => some (.inv (e4u k a.1)) | _, _ => none) (call := fun a k => a0g EF Zk Γk Δc (fun f r => match f, r with | 25, 4 => some (.inv (e4u k a.1)) | _, _ => none) 1) (fun _ _ => m7 Zk Kk 1) fun (a : CL D b4e.ash) (k : KD) (hp : b4e.holds a k) =>
 have hp : okK k := hp
 have hb := f7l hp a.1
 And.intro (⟨((0 : Nat), z8 k), rfl, rfl, rfl, F2 _⟩ : Ent (e4u k a.1) [SV.i IntKind.i64 (0 : Int)] [] [HB.itr 2 2 3 .int (z8 k)]) (
 fun (i : Nat × List Int) (hI : i.1 + bhC k a.1 i.2 = bhC k a.1 (z8 k)) =>
 nx (left := i.2) (fun h2 => (by
   rw [h2] at hI; have : i.1 = bhC k a.1 (z8 k) := by rw [<- hI]; rfl
   rw [this]; rfl : some ((i.1 : Int), ()) = some (b4e.post a k).1))
  (fun (x : Int) (rest : List Int) hr =>
   bq (decide (a.1 <= (sd (kCh k) x).change.view)) (fun h3 => (⟨(i.1 + 1, rest), by
    show [SV.i IntKind.i64 (wrap .i64 ((i.1 : Int) + 1))] = [iv ((i.1 + 1 : Nat) : Int)]; rw [wr1 (by omega)], rfl, rfl, by
    obtain ⟨l1, l2, e1, e2⟩ := hr; rw [e1, d5q, h3] at hI; show i.1 + 1 + bhC k a.1 rest = _; rw [e2, <- hI]; simp only [B5]; omega, by
    obtain ⟨l1, l2, e1, e2⟩ := hr; show rest.length < i.2.length; rw [e1, e2]; simp⟩ : Rnd (e4u k a.1) i [SV.i IntKind.i64 (wrap .i64 ((i.1 : Int) + 1))] [] [HB.itr 2 2 3 .int rest]))
   (fun h3 => (⟨(i.1, rest), rfl, rfl, rfl, by
    obtain ⟨l1, l2, e1, e2⟩ := hr; rw [e1, d5q, h3] at hI; show i.1 + bhC k a.1 rest = _; rw [e2, <- hI]; simp only [B8]; omega, by
    obtain ⟨l1, l2, e1, e2⟩ := hr; show rest.length < i.2.length; rw [e1, e2]; simp⟩ : Rnd (e4u k a.1) i [SV.i IntKind.i64 (i.1 : Int)] [] [HB.itr 2 2 3 .int rest]))))
def jnV (k : KD) (xs : List Int) : List Int := (xs.filter fun x => x != kSf k).map fun x => (sd (kCh k) x).change.view
def e4w (k : KD) : LH D := ⟨List Int × List Int, [6], fun _ => [.own 0], fun i => (i.1 ++ jnV k i.2).Perm (jnV k (z8 k)), fun i => i.2.length, [(.sl 6, .int, 3)], fun i => [.arr .int 3 i.1], [7], fun i => [.itr 2 2 3 .int i.2]⟩
def jnR (k : KD) : List Int := t8 (jnV k (z8 k))
def jnI (k : KD) : Int := ((jnR k).length : Int) - a1g (kCr k)
def jnP (k : KD) (v : Int) : Int × Bool × Unit := bif decide (jnI k < 0) then (0, false, ()) else bif decide ((jnR k).getD (jnI k).toNat 0 <= v) then (0, false, ()) else ((jnR k).getD (jnI k).toNat 0, true, ())
def b2r : i8 D := { ash := [.nm 0, .dat .int], es := KS, rsh := [.dat .int, .dat .bool], pes := KS, pre := some (fun _ k => okK k), post := fun a k => (jnP k a.1, k) }
def f7m {k : KD} (h : okK k) : (jnV k (z8 k)).length <= 1000 := by
 unfold jnV; rw [C5]
 exact D5 (O6 _ _) (by unfold z8; rw [C5]; exact h.len)
def d5r {k : KD} {x : Int} {l1 l2 : List Int} : jnV k (l1 ++ x :: l2) = jnV k l1 ++ ((bif x != kSf k then [(sd (kCh k) x).change.view] else []) ++ jnV k l2) := by
 unfold jnV
 rw [L4, K9, F5]
 cases x != kSf k <;> simp
def d5s {k : KD} {l1 l2 : List Int} : jnV k (l1 ++ l2) = jnV k l1 ++ jnV k l2 := by
 unfold jnV
 rw [L4, F5]
def f3j : b2r.looks EF Tp 15 := i8.proveL (c := b2r) EF Zk (H := fun _ k f r => match f, r with | 15, 5 => some (.inv (e4w k)) | _, _ => none) (call := fun _ k => f3i Δc (fun f r => match f, r with | 15, 5 => some (.inv (e4w k)) | _, _ => none) 2) (fun _ k => e4s Kk _ 2) fun (a : CL D b2r.ash) (k : KD) (hp : b2r.holds a k) =>
 have hp : okK k := hp
 have hb := f7m hp
 And.intro (⟨(([] : List Int), z8 k), rfl, rfl, rfl, M1 _⟩ : Ent (e4w k) [SV.own 0] [HB.arr .int 3 ([] : List Int)] [HB.itr 2 2 3 .int (z8 k)]) (
 fun (i : List Int × List Int) (hI : (i.1 ++ jnV k i.2).Perm (jnV k (z8 k))) =>
 nx (left := i.2) (fun h2 =>
  have hR : t8 i.1 = jnR k := e2p (by rw [h2] at hI; simpa [jnV] using hI); have hl : (t8 i.1).length <= 1000 := by rw [hR, jnR, a5b]; exact hb
  have hw : wrap .i64 (((t8 i.1).length : Int) - a1g (kCr k)) = jnI k := by
   rw [jnI, <- hR]; exact IntWalk.i64_in _ (by have := hp.s1; have := hp.s2; omega)
  bq (decide (wrap .i64 (((t8 i.1).length : Int) - a1g (kCr k)) < (0 : Int))) (fun h3 => (by
    rw [hw] at h3; simp only [b2r, jnP, h3, B5] : some ((0 : Int), false, ()) = some (b2r.post a k).1))
  (fun h3 =>
   have h3' : ¬ jnI k < 0 := by rw [hw] at h3; exact A9 h3
   have hi : (decide (0 <= wrap .i64 (((t8 i.1).length : Int) - a1g (kCr k))) && decide (wrap .i64 (((t8 i.1).length : Int) - a1g (kCr k)) < ((t8 i.1).length : Int))) = true := by
    rw [hw, hR]; have := hp.s1; have e : jnI k < ((jnR k).length : Int) := by unfold jnI; omega
    simp [e]; omega
   bN (iX (wrap .i64 (((t8 i.1).length : Int) - a1g (kCr k))) ((t8 i.1).length : Int)) hi (
   bq (decide ((t8 i.1).getD (wrap .i64 (((t8 i.1).length : Int) - a1g (kCr k))).toNat (0 : Int) <= a.1)) (fun h4 => (by
    rw [hw] at h3 h4; rw [hR] at h4; simp only [b2r, jnP, h3, h4, B5, B8] : some ((0 : Int), false, ()) = some (b2r.post a k).1))
   (fun h4 =>
    bN (iX (wrap .i64 (((t8 i.1).length : Int) - a1g (kCr k))) ((t8 i.1).length : Int)) hi (
    (by
     have e : (b2r.post a k).1 = ((jnR k).getD (jnI k).toNat 0, true, ()) := by
      rw [hw] at h3 h4; rw [hR] at h4; simp only [b2r, jnP, h3, h4, B8]
     rw [e, hw, hR]; rfl : some (((t8 i.1).getD (wrap .i64 (((t8 i.1).length : Int) - a1g (kCr k))).toNat (0 : Int)), true, ()) = some (b2r.post a k).1))))))
  (fun (x : Int) (rest : List Int) hr =>
   bq (x != kSf k) (fun h3 =>
    have hn : (i.1 ++ [(sd (kCh k) x).change.view] ++ jnV k rest).Perm (jnV k (z8 k)) := by
     obtain ⟨l1, l2, e1, e2⟩ := hr; refine List.Perm.trans ?_ hI; rw [e1, e2, d5r, h3, d5s, B5, B6]; exact List.Perm.append_left _ (by rw [<- B6, <- B6]; exact W7 _ List.perm_append_comm)
    bN (Nat.ble ((i.1.length + 1) * j0 Tp 3) d4) (by
     have := hn.length_eq; rw [B7, B7, E9] at this; rw [mb3]; exact D3 (by unfold d4; omega)) (
    (⟨(i.1 ++ [(sd (kCh k) x).change.view], rest), rfl, rfl, rfl, hn, by
     obtain ⟨l1, l2, e1, e2⟩ := hr; show rest.length < i.2.length; rw [e1, e2]; simp⟩ : Rnd (e4w k) i [SV.own 0] [HB.arr .int 3 (i.1 ++ [(sd (kCh k) x).change.view])] [HB.itr 2 2 3 .int rest])))
   (fun h3 => (⟨(i.1, rest), rfl, rfl, rfl, by
     obtain ⟨l1, l2, e1, e2⟩ := hr; rw [e1, d5r, h3] at hI; show (i.1 ++ jnV k rest).Perm _; rw [e2, d5s]; exact hI, by
     obtain ⟨l1, l2, e1, e2⟩ := hr; show rest.length < i.2.length; rw [e1, e2]; simp⟩ : Rnd (e4w k) i [SV.own 0] [HB.arr .int 3 i.1] [HB.itr 2 2 3 .int rest]))))
def hrB (k : KD) (s : u5) (wo : Int) (x : Int) : Bool := bif x == wo then false else bif x == kSf k then (bif (sdO (kCh k) s.change.node).isSome then dq (α := b8) (sd (kCh k) s.change.node).change s.change else false)
 else (akG (kAk k) ⟨x, s.change.node⟩).view == s.change.view && (decide ((akG (kAk k) ⟨x, s.change.node⟩).dig = s.dig) && true)
def hrN (k : KD) (s : u5) (wo : Int) : Nat := (a3j (kCr k) s.change.node).countP (hrB k s wo)
def e4x (k : KD) (s : u5) (wo : Int) : LH D := ⟨Nat × Nat, [6, 20], fun i => [iv i.1, iv i.2], fun i => i.2 <= (a3j (kCr k) s.change.node).length /\ i.1 = ((a3j (kCr k) s.change.node).take i.2).countP (hrB k s wo), fun i => (a3j (kCr k) s.change.node).length - i.2, [], fun _ => [], [], fun _ => []⟩
def b6u : i8 D := { ash := [.nm 0, .dat (.st 8), .dat .int], es := KS, rsh := [.dat .int], pes := KS, pre := some (fun _ k => okK k), post := fun a k => (((hrN k a.1 a.2.1 : Nat), ()), k) }
def f0a {k : KD} (h : okK k) (x : Int) : (a3j (kCr k) x).length <= 1000000 := by
 unfold a3j
 cases a0j (kCr k) != 0 with
 | true => simp
 | false => exact D5 (O6 _ _) h.nodes
def g7u {k : KD} {s : u5} {wo : Int} {i : Nat × Nat} {os : List Int} (hi : i.2 < os.length) (hI : i.1 = (os.take i.2).countP (hrB k s wo)) (e : hrB k s wo (os.getD i.2 0) = true) : i.1 + 1 = (os.take (i.2 + 1)).countP (hrB k s wo) := by
 rw [D9 hi, M3, <- hI]
 rw [B3, B2 hi, O4] at e
 simp [e]
def g7v {k : KD} {s : u5} {wo : Int} {i : Nat × Nat} {os : List Int} (hi : i.2 < os.length) (hI : i.1 = (os.take i.2).countP (hrB k s wo)) (e : hrB k s wo (os.getD i.2 0) = false) : i.1 = (os.take (i.2 + 1)).countP (hrB k s wo) := by
 rw [D9 hi, M3, <- hI]
 rw [B3, B2 hi, O4] at e
 simp [e]
def e4y : b6u.looks EF Tp 51 := i8.proveL (c := b6u) EF Zk (H := fun a k f r => match f, r with | 51, 2 => some (.inv (e4x k a.1 a.2.1)) | _, _ => none) (call := fun a k => a0g EF Zk Γk Δc (fun f r => match f, r with | 51, 2 => some (.inv (e4x k a.1 a.2.1)) | _, _ => none) 3) (fun _ _ => m7 Zk Kk 3) fun (a : CL D b6u.ash) (k : KD) (hp : b6u.holds a k) =>
 have hp : okK k := hp
 have hl := f0a hp a.1.change.node
 pQ ((kCr k).nodes.length <= 1000000) hp.nodes (
 brL fun _ : (a3j (kCr k) a.1.change.node).length <= d4 =>
 And.intro (⟨((0 : Nat), (0 : Nat)), rfl, rfl, rfl, C0 _, rfl⟩ : Ent (e4x k a.1 a.2.1) [SV.i IntKind.i64 (0 : Int), SV.i IntKind.i64 (0 : Int)] [] []) (
 fun (i : Nat × Nat) (hI : i.2 <= (a3j (kCr k) a.1.change.node).length /\ i.1 = ((a3j (kCr k) a.1.change.node).take i.2).countP (hrB k a.1 a.2.1)) =>
 have h1 : i.1 <= 1000000 := by rw [hI.2]; exact D5 O7 (by rw [C4]; omega)
 bq (decide ((i.2 : Int) < ((a3j (kCr k) a.1.change.node).length : Int))) (fun h3 =>
  have hi : i.2 < (a3j (kCr k) a.1.change.node).length := by have := A6 h3; omega
  have up (e : hrB k a.1 a.2.1 ((a3j (kCr k) a.1.change.node).getD i.2 0) = true) : Rnd (e4x k a.1 a.2.1) i [SV.i IntKind.i64 (wrap .i64 ((i.1 : Int) + 1)), SV.i IntKind.i64 (wrap .i64 ((i.2 : Int) + 1))] [] [] := ⟨(i.1 + 1, i.2 + 1), by
    show _ = [iv ((i.1 + 1 : Nat) : Int), iv ((i.2 + 1 : Nat) : Int)]; rw [wr1 (by omega), wr1 (by omega)], rfl, rfl, ⟨hi, g7u hi hI.2 e⟩, by show (a3j (kCr k) a.1.change.node).length - (i.2 + 1) < (a3j (kCr k) a.1.change.node).length - i.2; omega⟩
  have st (e : hrB k a.1 a.2.1 ((a3j (kCr k) a.1.change.node).getD i.2 0) = false) : Rnd (e4x k a.1 a.2.1) i [SV.i IntKind.i64 (i.1 : Int), SV.i IntKind.i64 (wrap .i64 ((i.2 : Int) + 1))] [] [] := ⟨(i.1, i.2 + 1), by
    show _ = [iv (i.1 : Int), iv ((i.2 + 1 : Nat) : Int)]; rw [wr1 (by omega)], rfl, rfl, ⟨hi, g7v hi hI.2 e⟩, by show (a3j (kCr k) a.1.change.node).length - (i.2 + 1) < (a3j (kCr k) a.1.change.node).length - i.2; omega⟩
  bN (iX (i.2 : Int) ((a3j (kCr k) a.1.change.node).length : Int)) (by simp; omega) (
  bq ((a3j (kCr k) a.1.change.node).getD i.2 (0 : Int) == a.2.1) (fun h4 => st (by unfold hrB; rw [h4]; rfl)) (fun h4 =>
  bq ((a3j (kCr k) a.1.change.node).getD i.2 (0 : Int) == kSf k) (fun h5 =>
   bq (bif (sdO (kCh k) a.1.change.node).isSome then dq (α := b8) (sd (kCh k) a.1.change.node).change a.1.change else false) (fun h6 => up (by unfold hrB; rw [h4, h5, h6]; rfl)) (fun h6 => st (by unfold hrB; rw [h4, h5, h6]; rfl)))
  (fun h5 =>
   bq ((akG (kAk k) ⟨(a3j (kCr k) a.1.change.node).getD i.2 (0 : Int), a.1.change.node⟩).view == a.1.change.view && (decide ((akG (kAk k) ⟨(a3j (kCr k) a.1.change.node).getD i.2 (0 : Int), a.1.change.node⟩).dig = a.1.dig) && true)) (fun h6 => up (by unfold hrB; rw [h4, h5, h6]; rfl)) (fun h6 => st (by unfold hrB; rw [h4, h5, h6]; rfl))))))
 (fun h3 => (by
  have hi : i.2 = (a3j (kCr k) a.1.change.node).length := by have := A9 h3; omega
  have e : i.1 = hrN k a.1 a.2.1 := by rw [hI.2, hi, D1]; rfl
  rw [e]; rfl : some ((i.1 : Int), ()) = some (b6u.post a k).1))))
abbrev Δk : Nat -> Option (i8 D) := u6 (u6 Δc 42 c4a) 41 a5c
def Kk2 : n3 EF Tp Γk Δk := (Kk.o f7k).o c9s
abbrev Λh : Nat -> Option (i8 D) := u6 (fun _ => none) 51 b6u
def Lh : a0r EF Tp Λh := a0r.nil.o e4y
abbrev c9t (H : Nat -> Nat -> Option (Hint D)) (n : Nat) : j7 D := b9v 53 94 (a4n EF Zk Λh Γk Δk H n)
def b4f (H : Nat -> Nat -> Option (Hint D)) (n : Nat) : j5 Tp (c9t H n) := a9s a9t (a1b Lh Kk2 n)
def b5w (c : a0c) (x : Int) : Bool := (c3u (c, x, ())).1
def b2s : b8 := ⟨0, 0, 0, [], [], []⟩
def f0b : a0n := ⟨0, [], 0, []⟩
abbrev dgS (c : b8) : u5 := ⟨c, a4d (d9 c)⟩
def a2i (k : KD) (s : u5) : d7 := ⟨8, kSf k, kGr k, kEp k, s.change.view, 0, s.dig, [], f0b, 0, s.change.node, b2s, [], [], 0, 0, [], [], []⟩
def b4g (k : KD) (c : b8) : d7 := ⟨7, kSf k, kGr k, kEp k, 0, 0, Dig.zero, [], f0b, 0, 0, c, [], [], 0, 0, [], [], []⟩
def f0c {k : KD} (h : okK k) (b : List UInt8) : okK (a1m k b) := ⟨h.nodes, h.s1, h.s2, h.len, h.ch⟩
def a9a (k : KD) (c : b8) : Bool := bif (bif (sdO (kCh k) c.node).isSome then dq (α := b8) (sd (kCh k) c.node).change c else false) then true else decide (a1g (kCr k) <= (hrN k (dgS c) 0 : Int))
def c2i (k : KD) (c : b8) : (Bool × Unit) × KD := bif !b5w (kCr k) c.node then ((false, ()), k) else ((a9a k c, ()), a1m k (d9 c))
def a8v : i8 D := { ash := [.nm 0, .dat (.st 3)], es := KS, rsh := [.dat .bool], pes := KS, pre := some (fun a k => isW a.1 /\ okK k), post := fun a k => c2i k a.1 }
def f7n : a8v.ok EF Tp 20 := i8.proveH (c := a8v) EF Zk (H := fun _ _ _ _ => none) (call := fun _ _ => c9t (fun _ _ => none) 3) (fun _ _ => b4f _ 3) fun (a : CL D a8v.ash) (k : KD) (hp : a8v.holds a k) =>
 have hp : isW a.1 /\ okK k := hp
 bq (!b5w (kCr k) a.1.node) (fun h1 => (by simp only [a8v, c2i, h1, B5] : some ((false, ()), k) = some (a8v.post a k))) (fun h1 =>
 pQ (isW a.1) hp.1 (
 have g2 := f0c hp.2 (d9 a.1)
 have e (b : Bool) (hb : a9a k a.1 = b) : some ((b, ()), a1m k (d9 a.1)) = some (a8v.post a k) := by simp only [a8v, c2i, h1, B8, hb]
 bq ((sdO (kCh k) a.1.node).isSome) (fun h2 =>
  bq (dq (α := b8) (sd (kCh k) a.1.node).change a.1) (fun h3 =>
   have t : some ((true, ()), a1m k (d9 a.1)) = some (a8v.post a k) := e true (by unfold a9a; rw [h2, h3]; rfl)
   And.intro t (And.intro t (b1n t)))
  (fun h3 => pQ (okK (a1m k (d9 a.1))) g2 (
   (e _ (by unfold a9a; rw [h2, h3]; rfl) : some ((decide (a1g (kCr k) <= (hrN k (dgS a.1) 0 : Int)), ()), a1m k (d9 a.1)) = some (a8v.post a k)))))
 (fun h2 => b1n (pQ (okK (a1m k (d9 a.1))) g2 (
   (e _ (by unfold a9a; rw [h2]; rfl) : some ((decide (a1g (kCr k) <= (hrN k (dgS a.1) 0 : Int)), ()), a1m k (d9 a.1)) = some (a8v.post a k)))))))
def lvP (k : KD) (c : b8) : (List d7 × Int × Unit) × KD := bif c.node != kSf k then (([], 2, ()), a1m k (d9 c)) else bif decide (c.view <= (sd (kCh k) (kSf k)).change.view) then (([], 190, ()), a1m k (d9 c))
 else (([b4g k c], 0, ()), c0q (a1m k (d9 c)) (j6 (E := D) .int (.st 8) (kCh k) (kSf k) (dgS c)))
def c0s : i8 D := { ash := [.nm 0, .dat (.st 3)], es := KS, rsh := [.dat (.sl (.st 7)), .dat .int], pes := KS, pre := some (fun a _ => isW a.1), post := fun a k => lvP k a.1 }
def g4u : c0s.ok EF Tp 26 := i8.proveH (c := c0s) EF Zk (H := fun _ _ _ _ => none) (call := fun _ _ => c9t (fun _ _ => none) 3) (fun _ _ => b4f _ 3) fun (a : CL D c0s.ash) (k : KD) (hp : c0s.holds a k) =>
 have hp : isW a.1 := hp
 have hc := b4d hp
 pQ (isW a.1) hp (
 bq (a.1.node != kSf k) (fun h1 => (by simp only [c0s, lvP, h1, B5] : some (([], (2 : Int), ()), a1m k (d9 a.1)) = some (c0s.post a k))) (fun h1 =>
 bq (decide (a.1.view <= (sd (kCh k) (kSf k)).change.view)) (fun h2 => (by simp only [c0s, lvP, h1, h2, B5, B8] : some (([], (190 : Int), ()), a1m k (d9 a.1)) = some (c0s.post a k))) (fun h2 =>
 pQ (a.1.mz.length <= 1000000) hc.1 (
 pQ (a.1.p.length <= 1000000) hc.2.1 (
 pQ (a.1.q.length <= 1000000) hc.2.2 (
 (by simp only [c0s, lvP, h1, h2, B8] : some (([b4g k a.1], (0 : Int), ()), c0q (a1m k (d9 a.1)) (j6 (E := D) .int (.st 8) (kCh k) (kSf k) (dgS a.1))) = some (c0s.post a k))))))))
def a7r (k : KD) (n : d7) : (List d7 × Int × Unit) × KD :=
 bif decide (n.change.view < (sd (kCh k) n.sq).change.view) then (([], 190, ()), a1m k (d9 n.change))
 else bif (bif (sd (kCh k) n.sq).change.view == n.change.view then !dq (α := b8) (sd (kCh k) n.sq).change n.change else false) then (([], 151, ()), a1m k (d9 n.change))
 else bif (sd (kCh k) n.sq).change.view == n.change.view then (([], 0, ()), a1m k (d9 n.change))
 else (([a2i k (dgS n.change)], 0, ()), c0q (a1m k (d9 n.change)) (j6 (E := D) .int (.st 8) (kCh k) n.sq (dgS n.change)))
def a3g (k : KD) (n : d7) : (List d7 × Int × Unit) × KD :=
 bif (bif !(n.kind == 8) then n.kind != 7 else false) then (([], 2, ()), k)
 else bif n.group != kGr k then (([], 171, ()), k)
 else bif n.epoch != kEp k then (([], 171, ()), k)
 else bif !b5w (kCr k) n.sq then (([], 110, ()), k)
 else bif n.sq == kSf k then (([], 110, ()), k)
 else bif n.kind == 8 then (bif !b5w (kCr k) n.node then (([], 110, ()), k) else (([], (a0t k n).1.1, ()), (a0t k n).2))
 else a7r k n
def a4p : i8 D := { ash := [.nm 0, .dat (.st 7)], es := KS, rsh := [.dat (.sl (.st 7)), .dat .int], pes := KS, pre := some (fun a _ => b4c a.1), post := fun a k => a3g k a.1 }
def f7o {n : d7} (h : b4c n) (hk : (n.kind == 8) = false) : isW n.change := by
 rcases h with ⟨i, rfl, h1, h2⟩ | ⟨i, rfl, _⟩
 ·exact ⟨((i.1 + 1 : Nat), (i.2.1 + 1 : Nat), i.2.2), rfl, by show (1 : Int) <= (i.1 + 1 : Nat); omega, by show ((i.1 + 1 : Nat) : Int) <= 28; omega, by show (1 : Int) <= (i.2.1 + 1 : Nat); omega, by show ((i.2.1 + 1 : Nat) : Int) <= 255; omega⟩
 ·cases hk
def g4v : a4p.ok EF Tp 12 := i8.proveH (c := a4p) EF Zk (H := fun _ _ _ _ => none) (call := fun _ _ => c9t (fun _ _ => none) 3) (fun _ _ => b4f _ 3) fun (a : CL D a4p.ash) (k : KD) (hp : a4p.holds a k) =>
 have hp : b4c a.1 := hp
 bq (bif !(a.1.kind == 8) then a.1.kind != 7 else false) (fun h1 => (by simp only [a4p, a3g, h1, B5] : some (([], (2 : Int), ()), k) = some (a4p.post a k))) (fun h1 =>
 pQ (b4c a.1) hp (
 bq (a.1.group != kGr k) (fun h2 =>
  have t : some (([], (171 : Int), ()), k) = some (a4p.post a k) := by simp only [a4p, a3g, h1, h2, B5, B8]
  And.intro t (And.intro t (b1n t))) (fun h2 =>
 bq (a.1.epoch != kEp k) (fun h3 => (by simp only [a4p, a3g, h1, h2, h3, B5, B8] : some (([], (171 : Int), ()), k) = some (a4p.post a k))) (fun h3 =>
 bq (!b5w (kCr k) a.1.sq) (fun h4 =>
  have t : some (([], (110 : Int), ()), k) = some (a4p.post a k) := by simp only [a4p, a3g, h1, h2, h3, h4, B5, B8]
  And.intro t (And.intro t (b1n t))) (fun h4 =>
 bq (a.1.sq == kSf k) (fun h5 => (by simp only [a4p, a3g, h1, h2, h3, h4, h5, B5, B8] : some (([], (110 : Int), ()), k) = some (a4p.post a k))) (fun h5 =>
 bq (a.1.kind == 8) (fun h6 =>
  bq (!b5w (kCr k) a.1.node) (fun h7 => (by simp only [a4p, a3g, h1]; simp only [h2, h3, h4, h5, h6, h7, B5, B8] : some (([], (110 : Int), ()), k) = some (a4p.post a k))) (fun h7 =>
   (by simp only [a4p, a3g, h1]; simp only [h2, h3, h4, h5, h6, h7, B5, B8] : some (([], (a0t k a.1).1.1, ()), (a0t k a.1).2) = some (a4p.post a k))))
 (fun h6 =>
  have e : a4p.post a k = a7r k a.1 := by simp only [a4p, a3g, h1]; simp only [h2, h3, h4, h5, h6, B8]
  have X := pQ (isW a.1.change) (f7o hp h6) (
   bq (decide (a.1.change.view < (sd (kCh k) a.1.sq).change.view)) (fun h7 => (by rw [e, a7r, h7]; rfl : some (([], (190 : Int), ()), a1m k (d9 a.1.change)) = some (a4p.post a k))) (fun h7 =>
   bq (bif (sd (kCh k) a.1.sq).change.view == a.1.change.view then !dq (α := b8) (sd (kCh k) a.1.sq).change a.1.change else false) (fun h8 => (by rw [e, a7r, h7, h8]; rfl : some (([], (151 : Int), ()), a1m k (d9 a.1.change)) = some (a4p.post a k))) (fun h8 =>
   bq ((sd (kCh k) a.1.sq).change.view == a.1.change.view) (fun h9 => (by rw [e, a7r, h7, h8, h9]; rfl : some (([], (0 : Int), ()), a1m k (d9 a.1.change)) = some (a4p.post a k))) (fun h9 =>
   (by rw [e, a7r, h7, h8, h9]; rfl : some (([a2i k (dgS a.1.change)], (0 : Int), ()), c0q (a1m k (d9 a.1.change)) (j6 (E := D) .int (.st 8) (kCh k) a.1.sq (dgS a.1.change))) = some (a4p.post a k))))))
  And.intro (And.intro (b1n X) X) X)))))))
def f7p : j0 Tp 41 = 96 := by kernel_rfl
def f0d (k : KD) : Int := wrap .i64 (wrap .i64 (2 * (kCr k).faults) - 1)
def rdyB (k : KD) (v : Int) (x : Int) : Bool := bif (sd (kCh k) x).change.view == v then (bif x == kSf k then true else decide (f0d k <= (hrN k (sd (kCh k) x) (kSf k) : Int))) else false
abbrev u7 (k : KD) : List Int := t8 (z8 k)
def a1x (k : KD) (v : Int) (xs : List Int) : List b8 := (xs.filter (rdyB k v)).map fun x => (sd (kCh k) x).change
def d5t (k : KD) (v : Int) : LH D := ⟨List b8 × Nat, [4, 17], fun i => [.own 0, iv i.2], fun i => i.2 <= (u7 k).length /\ i.1 = a1x k v ((u7 k).take i.2), fun i => (u7 k).length - i.2, [(.sl 4, .st 3, 41)], fun i => [.arr (.st 3) 41 i.1], [], fun _ => []⟩
def b2a : i8 D := { ash := [.nm 0, .dat .int], es := KS, rsh := [.dat (.sl (.st 3))], pes := KS, pre := some (fun _ k => okK k), post := fun a k => ((a1x k a.1 (u7 k), ()), k) }
def c9u {k : KD} (h : okK k) : (u7 k).length <= 1000 := by rw [a5b]; unfold z8; rw [C5]; exact h.len
def f0e {k : KD} {v : Int} {xs : List Int} : (a1x k v xs).length <= xs.length := by unfold a1x; rw [C5]; exact O6 _ _
def f7q {k : KD} {v : Int} {xs : List Int} {i : Nat} (hi : i < xs.length) (e : rdyB k v (xs.getD i 0) = true) : a1x k v (xs.take (i + 1)) = a1x k v (xs.take i) ++ [(sd (kCh k) (xs.getD i 0)).change] := by
 unfold a1x
 rw [B3, B2 hi, O4] at e ⊢
 rw [D9 hi, L4, F5]
 simp [e]
def f7r {k : KD} {v : Int} {xs : List Int} {i : Nat} (hi : i < xs.length) (e : rdyB k v (xs.getD i 0) = false) : a1x k v (xs.take (i + 1)) = a1x k v (xs.take i) := by
 unfold a1x
 rw [B3, B2 hi, O4] at e
 rw [D9 hi, L4, F5]
 simp [e]
def f7s (a : CL D b2a.ash) (k : KD) : Nat -> Nat -> Option (Hint D) := fun f r => match f, r with | 22, 4 => some (.inv (d5t k a.1)) | _, _ => none
def e4z : b2a.looks EF Tp 22 := i8.proveL (c := b2a) EF Zk.skip (H := f7s) (call := fun a k => c9t (f7s a k) 3) (fun a k => b4f (f7s a k) 3) fun (a : CL D b2a.ash) (k : KD) (hp : b2a.holds a k) =>
 have hp : okK k := hp
 have hl := c9u hp
 pQ (d2f (kCh k)) ⟨hp.len, fun p hm => (hp.ch p hm).2⟩ (
 brL fun _ : (u7 k).length <= d4 =>
 And.intro (⟨(([] : List b8), (0 : Nat)), rfl, rfl, rfl, C0 _, rfl⟩ : Ent (d5t k a.1) [SV.own 0, SV.i IntKind.i64 (0 : Int)] [HB.arr (.st 3) 41 ([] : List b8)] []) (
 fun (i : List b8 × Nat) (hI : i.2 <= (u7 k).length /\ i.1 = a1x k a.1 ((u7 k).take i.2)) =>
 have h1 : i.1.length <= 1000 := by rw [hI.2]; exact D5 f0e (by rw [C4]; omega)
 bq (decide ((i.2 : Int) < ((u7 k).length : Int))) (fun h3 =>
  have hi : i.2 < (u7 k).length := by have := A6 h3; omega
  have hc := d2t hp ((u7 k).getD i.2 0); have up (e : rdyB k a.1 ((u7 k).getD i.2 0) = true) := pQ ((sd (kCh k) ((u7 k).getD i.2 0)).change.mz.length <= 1000000) hc.1 (
   pQ ((sd (kCh k) ((u7 k).getD i.2 0)).change.p.length <= 1000000) hc.2.1 (
   pQ ((sd (kCh k) ((u7 k).getD i.2 0)).change.q.length <= 1000000) hc.2.2 (
   bN (Nat.ble ((i.1.length + 1) * j0 Tp 41) d4) (by rw [f7p]; exact D3 (by unfold d4; omega)) (
   (⟨(i.1 ++ [(sd (kCh k) ((u7 k).getD i.2 0)).change], i.2 + 1), by
    show _ = [SV.own 0, iv ((i.2 + 1 : Nat) : Int)]; rw [wr1 (by omega)], rfl, rfl, ⟨hi, by rw [f7q hi e, <- hI.2]⟩, by show (u7 k).length - (i.2 + 1) < (u7 k).length - i.2; omega⟩ : Rnd (d5t k a.1) i [SV.own 0, SV.i IntKind.i64 (wrap .i64 ((i.2 : Int) + 1))] [HB.arr (.st 3) 41 (i.1 ++ [(sd (kCh k) ((u7 k).getD i.2 0)).change])] [])))))
  have st (e : rdyB k a.1 ((u7 k).getD i.2 0) = false) : Rnd (d5t k a.1) i [SV.own 0, SV.i IntKind.i64 (wrap .i64 ((i.2 : Int) + 1))] [HB.arr (.st 3) 41 i.1] [] := ⟨(i.1, i.2 + 1), by
    show _ = [SV.own 0, iv ((i.2 + 1 : Nat) : Int)]; rw [wr1 (by omega)], rfl, rfl, ⟨hi, by rw [f7r hi e]; exact hI.2⟩, by show (u7 k).length - (i.2 + 1) < (u7 k).length - i.2; omega⟩
  bN (iX (i.2 : Int) ((u7 k).length : Int)) (by simp; omega) (
  bq ((sd (kCh k) ((u7 k).getD i.2 0)).change.view == a.1) (fun h4 =>
   bq ((u7 k).getD i.2 0 == kSf k) (fun h5 => up (by unfold rdyB; rw [h4, h5]; rfl)) (fun h5 =>
   pQ (okK k) hp (
   bq (decide (f0d k <= (hrN k (sd (kCh k) ((u7 k).getD i.2 0)) (kSf k) : Int))) (fun h6 => up (by unfold rdyB; rw [h4, h5, h6]; rfl)) (fun h6 => st (by unfold rdyB; rw [h4, h5, h6]; rfl)))))
  (fun h4 => st (by unfold rdyB; rw [h4]; rfl))))
 (fun h3 => (by
  have hi : i.2 = (u7 k).length := by have := A9 h3; omega
  have e : i.1 = a1x k a.1 (u7 k) := by rw [hI.2, hi, D1]
  rw [e]; rfl : some (i.1, ()) = some (b2a.post a k).1))))
def d5u : a0c := ⟨1, [1, 2, 3, 4]⟩
def d5v : a0c := ⟨2, [1, 2, 3, 4, 5, 6, 7]⟩
def a2j (f : Int) : a0c := bif f == 1 then d5u else d5v
def e5a : Con D := { ts := [.int], rt := [.st 0], pre := some (fun a => a = ((1 : Int), ())), ret := fun _ => (d5u, ()) }
def f3k : Con D := { ts := [.int], rt := [.st 0], pre := some (fun a => a = ((2 : Int), ())), ret := fun _ => (d5v, ()) }
def crU : HL D e5a.ts -> Nat -> Nat -> Option (Hint D) := fun _ _ _ => some (.unr 9)
def f7t : e5a.ok Tp 34 := Con.proveS (c := e5a) EF Z0 K0 (fun _ : Unit => ((1 : Int), ())) (fun _ => True) (fun a h => ⟨(), h, trivial⟩) (H := fun _ => crU ((0 : Int), ())) (n := 1) fun (_ : Unit) (_ : True) => (rfl : some (d5u, ()) = some (d5u, ()))
def f7u : f3k.ok Tp 34 := Con.proveS (c := f3k) EF Z0 K0 (fun _ : Unit => ((2 : Int), ())) (fun _ => True) (fun a h => ⟨(), h, trivial⟩) (H := fun _ => crU ((0 : Int), ())) (n := 1) fun (_ : Unit) (_ : True) => (rfl : some (d5v, ()) = some (d5v, ()))
def d5w : Con D := { ts := [.int], rt := [.st 0], pre := some (fun a => a.1 = 1 ∨ a.1 = 2), ret := fun a => (a2j a.1, ()) }
def d2u : d5w.ok Tp 34 := by
 intro a G w vs hw hp hv
 obtain ⟨x, u⟩ := a
 rcases (hp : x = 1 ∨ x = 2) with rfl | rfl
 ·exact f7t ((1 : Int), u) G w vs hw rfl hv
 ·exact f7u ((2 : Int), u) G w vs hw rfl hv
abbrev PS : List ES := [.box 107 [.nm 1, .nm 2, .dat .int], .map .dig .str, .map .str .bool, .box 93 [.nm 0, .dat (.st 0), .dat .int, .dat .int, .dat .int, .nm 4, .nm 5], .map .int (.st 8), .map (.st 10) (.st 9)]
def okF (f self : Int) : Prop := (f = 1 ∨ f = 2) /\ 1 <= self /\ self <= 3 * f + 1
def d5x {f self : Int} (h : okF f self) : (bif a0j (a2j f) != 0 then true else !b5w (a2j f) self) = false := by
 obtain ⟨rfl | rfl, h1, h2⟩ := h
 ·have : self = 1 ∨ self = 2 ∨ self = 3 ∨ self = 4 := by omega
  rcases this with rfl | rfl | rfl | rfl <;> rfl
 ·have : self = 1 ∨ self = 2 ∨ self = 3 ∨ self = 4 ∨ self = 5 ∨ self = 6 ∨ self = 7 := by omega
  rcases this with rfl | rfl | rfl | rfl | rfl | rfl | rfl <;> rfl
def c4b (f : Int) : (a2j f).nodes.length <= 1000000 := by
 unfold a2j
 cases f == 1 <;> decide
abbrev Γf1 : Nat -> Option (Con D) := i5 Γk 34 d5w
def Kf2 : n3 EF Tp Γf1 Δk := Kk2.c d2u
def c6i : i8 D := { ash := [.nm 0, .dat .int, .dat .int], es := BS, rsh := [.nm 3], pes := PS, pre := some (fun a _ => okF a.1 a.2.1), post := fun a e => ((), e.1, e.2.1, e.2.2.1, (a2j a.1, a.2.1, 1, 1, ()), [], [], ()) }
def g4w : c6i.ok EF Tp 10 := i8.proveH (c := c6i) EF Zk.skip (H := fun _ _ _ _ => none) (call := fun _ _ => a4n EF Zk.skip (fun _ => none) Γf1 Δk (fun _ _ => none) 3) (fun _ _ => a1b a0r.nil Kf2 3) fun (a : CL D c6i.ash) (e : EL D c6i.es) (hp : c6i.holds a e) =>
 have hp : okF a.1 a.2.1 := hp
 pQ (a.1 = 1 ∨ a.1 = 2) hp.1 (
 bq (bif a0j (a2j a.1) != 0 then true else !b5w (a2j a.1) a.2.1) (fun h1 => (by rw [d5x hp] at h1; exact absurd h1 (by decide) : none = some (c6i.post a e))) (fun _ =>
 pQ ((a2j a.1).nodes.length <= 1000000) (c4b a.1) (
 (rfl : some ((), (e.1.1, ()), e.2.1, e.2.2.1, (a2j a.1, a.2.1, (1 : Int), (1 : Int), ()), [], [], ()) = some (c6i.post a e)))))
abbrev Γr1 : Nat -> Option (Con D) := i5 noC 177 a3a
def Kr1 : n3 EF Tp Γr1 noO := K0.c c3y
def ZQ : ZF Tp D := (Z0.side Kr1).skip
def f7v : a3f.ok Tp 49 := Con.proveS (c := a3f) EF ZQ Kr1 (fun i : Int × Int × UInt8 => (m6 i.1 i.2.1 i.2.2, ())) b4b (fun a h => h) (H := fun _ _ _ => some (.unr 40)) (n := 6) fun (i : Int × Int × UInt8) (hq : b4b i) =>
 have q1 := hq.1
 have q2 := hq.2.1
 have q3 := hq.2.2.1
 have q4 := hq.2.2.2
 bq (!bif decide (1 <= i.1) then decide (i.1 <= 28) else false) (fun h1 => (by simp [q1, q2] at h1 : some ([], 2, ()) = some (a3f.ret (m6 i.1 i.2.1 i.2.2, ())))) (fun _ =>
 bq (!bif decide (1 <= i.2.1) then decide (i.2.1 <= 1048576) else false) (fun h1 => (by simp [q3, show i.2.1 <= 1048576 by omega] at h1 : some ([], 2, ()) = some (a3f.ret (m6 i.1 i.2.1 i.2.2, ())))) (fun _ =>
 bq (bif bif bif decide (1 <= 0) then true else decide (wrap .i64 ((0 : Int) + 8) < (1 : Int)) then true else decide (0 < 0) then true else decide (i.2.1 <= 0)) (fun h1 => (by
  have e : decide (i.2.1 <= 0) = false := by simp; omega
  rw [e] at h1; exact absurd h1 (by decide) : some ([], 2, ()) = some (a3f.ret (m6 i.1 i.2.1 i.2.2, ())))) (fun _ =>
 bN (Nat.ble ((length ([] : List UInt8) + (N i.1).length) * j0 Tp 5) d4) (j3 0 (B9 _) (i4 _) (by omega)) (
 bN (Nat.ble (((w1 i.1).length + (N i.2.1).length) * j0 Tp 5) d4) (j3 1 (l1 _) (i4 _) (by omega)) (
 bN (Nat.ble (((w2 i.1 i.2.1).length + (N 0).length) * j0 Tp 5) d4) (j3 2 (l2 _ _) (i4 _) (by omega)) (
 bN (Nat.ble (((w3 i.1 i.2.1).length + (N (1 : Nat)).length) * j0 Tp 5) d4) (j3 3 (l3 _ _) (i4 _) (by omega)) (
 bN (Nat.ble (((w4 i.1 i.2.1).length + (N 0).length) * j0 Tp 5) d4) (j3 4 (l4 _ _) (i4 _) (by omega)) (
 bN (Nat.ble (((w5 i.1 i.2.1).length + (d8p 9).l.length) * j0 Tp 5) d4) (j3 5 (l5 _ _) (a1f _) (by omega)) (
 bN (Nat.ble (((w6 i.1 i.2.1).length + (N (0 : Nat)).length) * j0 Tp 5) d4) (j3 6 (l6 _ _) (i4 _) (by omega)) (
 bN (Nat.ble (((w7 i.1 i.2.1).length + (N (1 : Nat)).length) * j0 Tp 5) d4) (j3 7 (l7 _ _) (i4 _) (by omega)) (
 bN (Nat.ble (((w8 i.1 i.2.1).length + (N 1).length) * j0 Tp 5) d4) (j3 8 (l8 _ _) (i4 _) (by omega)) (
 bN (Nat.ble (((w9 i.1 i.2.1).length + (a8z i.2.2 1).l.length) * j0 Tp 5) d4) (j3 9 (l9 _ _) (a1f _) (by omega)) (
 bN (Nat.ble (((w10 i.1 i.2.1 i.2.2).length + (N 0).length) * j0 Tp 5) d4) (j3 10 (l10 _ _ _) (i4 _) (by omega)) (
 (by rw [f6s]; rfl : some (w11 i.1 i.2.1 i.2.2, 0, ()) = some (a3f.ret (m6 i.1 i.2.1 i.2.2, ())))))))))))))))))
end
end Go.Proofs.YtpbcabanpppfoaaGreat
