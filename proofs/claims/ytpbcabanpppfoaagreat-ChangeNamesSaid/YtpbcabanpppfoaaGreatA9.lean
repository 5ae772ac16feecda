/- A part of the proof. No condition. -/
import Derived.Test.YtpbcabanpppfoaaGreatA8
import Derived.Tactics
import Derived.Tactics2
import Derived.Defers
import Derived.Laws.Pointers
import Derived.Laws.LoneSync
import Derived.RegionTactic
import Derived.RegionCalls
import Derived.ChangeAlike
set_option linter.all false
namespace Go.Proofs.YtpbcabanpppfoaaGreat
open Go Go.Gx Go.Vz
open Go.IntKind (wrap)
open List (flatMap getD length take replicate)
set_option maxRecDepth 100000
noncomputable section
abbrev gi (l : List Int) (i : Nat) : Int := l.getD i 0
def a0a (x : Int) (n : Nat) : Int := a3e .or .u32 (b3h .u32 x ((32 - n : Nat) : Int)) (a6d .u32 x (n : Int))
def xr (a b : Int) : Int := a3e .xor .u32 a b
def ad (a b : Int) : Int := wrap .u32 (a + b)
def nd (a b : Int) : Int := a3e .and .u32 a b
def wj (b w : List Int) (t : Nat) : Nat -> List Int
 | 0 => w
 | j + 1 => (wj b w t j).set t (a3e .or .u32 (b3h .u32 (gi (wj b w t j) t) 8) (wrap .u32 (gi b (4 * t + j))))
def sgm (r : Int -> Nat -> Int) (x : Int) (p q n : Nat) : Int := xr (xr (r x p) (r x q)) (a6d .u32 x (n : Int))
def w16 (r : Int -> Nat -> Int) (w : List Int) (a b c d : Nat) : Int := ad (ad (ad (gi w a) (sgm r (gi w b) 7 18 3)) (gi w c)) (sgm r (gi w d) 17 19 10)
def o4 (b : List Int) : Nat -> List Int
 | 0 => replicate 64 0
 | t + 1 => bif Nat.blt t 16 then wj b (o4 b t) t 4 else (o4 b t).set t (w16 a0a (o4 b t) (t - 16) (t - 15) (t - 7) (t - 2))
def c2g (r : Int -> Nat -> Int) (s k w : List Int) (t : Nat) : Int := ad (ad (ad (ad (gi s 7) (xr (xr (r (gi s 4) 6) (r (gi s 4) 11)) (r (gi s 4) 25))) (xr (nd (gi s 4) (gi s 5)) (nd (a3e .xor .u32 IntKind.u32.max (gi s 4)) (gi s 6)))) (gi k t)) (gi w t)
def c0d (r : Int -> Nat -> Int) (s : List Int) : Int := ad (xr (xr (r (gi s 0) 2) (r (gi s 0) 13)) (r (gi s 0) 22)) (xr (xr (nd (gi s 0) (gi s 1)) (nd (gi s 0) (gi s 2))) (nd (gi s 1) (gi s 2)))
def stp (r : Int -> Nat -> Int) (s k w : List Int) : Nat -> List Int
 | 0 => [gi s 0, gi s 1, gi s 2, gi s 3, gi s 4, gi s 5, gi s 6, gi s 7]
 | t + 1 => let x := stp r s k w t
  [ad (c2g r x k w t) (c0d r x), gi x 0, gi x 1, gi x 2, ad (gi x 3) (c2g r x k w t), gi x 4, gi x 5, gi x 6]
def c0e (s x : List Int) : Nat -> List Int
 | 0 => s
 | i + 1 => (c0e s x i).set i (ad (gi (c0e s x i) i) (gi x i))
def c9g (s b k : List Int) : List Int := c0e s (stp a0a s k (o4 b 64) 64) 8
abbrev c0f : List CS := [.dat .bool, .dat (.ik .u32), .dat (.ik .i32), .dat (.ik .u32), .dat (.st 16), .dat (.st 14), .dat (.st 15), .dat .int, .dat .int]
def b3u (b : List Int) (w : Nat) : LH D := ⟨Nat, [26], fun t => [.i .i64 (t : Nat)], fun t => t <= 64, fun t => 64 - t, [], fun _ => [], [w], fun t => [.box 217 [.vec .u32 64 (o4 b t)]]⟩
def e3h (b : List Int) (t : Nat) (w : Nat) : LH D := ⟨Nat, [40], fun j => [.i .i64 (j : Nat)], fun j => j <= 4, fun j => 4 - j, [], fun _ => [], [w], fun j => [.box 217 [.vec .u32 64 (wj b (o4 b t) t j)]]⟩
def c3s (s k w : List Int) : LH D := ⟨Nat, [108, 13, 14, 15, 16, 17, 18, 19, 20], fun t => [.i .i64 (t : Nat), .i .u32 (gi (stp a0a s k w t) 0), .i .u32 (gi (stp a0a s k w t) 1), .i .u32 (gi (stp a0a s k w t) 2), .i .u32 (gi (stp a0a s k w t) 3), .i .u32 (gi (stp a0a s k w t) 4), .i .u32 (gi (stp a0a s k w t) 5), .i .u32 (gi (stp a0a s k w t) 6), .i .u32 (gi (stp a0a s k w t) 7)], fun t => t <= 64, fun t => 64 - t, [], fun _ => [], [], fun _ => []⟩
def tkH (s b k : List Int) (w : Nat) : Nat -> Nat -> Option (Hint D) := fun f i => match f, i with
  | 179, 3 => some (.inv (b3u b w))
  | 179, 7 => some (.dep fun st => .inv (e3h b (slI st 8).toNat w))
  | 179, 16 => some (.inv (c3s s k (o4 b 64)))
  | 179, _ => some (.unr 9)
  | _, _ => none
def e4 {t : Nat} (h : t < 64) : wrap .i64 ((4 : Int) * (t : Int)) = ((4 * t : Nat) : Int) := by rw [IntWalk.i64_in _ (by omega)]; omega
def e5 {t : Nat} (h : t < 64) : wrap .i64 (wrap .i64 ((4 : Int) * (t : Int)) + 4) = ((4 * t + 4 : Nat) : Int) := by rw [e4 h, IntWalk.i64_in _ (by omega)]; omega
def b2m {t : Nat} (h : t < 64) : (decide (0 <= (t : Int)) && decide ((t : Int) < (64 : Nat))) = true := by simp; omega
def eM {t : Nat} (c : Nat) (h : t < 64) (hc : c <= t) : wrap .i64 ((t : Int) - (c : Int)) = ((t - c : Nat) : Int) := by rw [IntWalk.i64_in _ (by omega)]; omega
def atM {t : Nat} (c : Nat) (h : t < 64) (hc : c <= t) : (decide (0 <= wrap .i64 ((t : Int) - (c : Int))) && decide (wrap .i64 ((t : Int) - (c : Int)) < ((64 : Nat) : Int))) = true := by rw [eM c h hc]; simp; omega
section
variable (b : List Int) (W : Nat) {t : Nat}
def g3d : Ent (e3h b t W) [iv 0] [] [.box 217 [.vec .u32 64 (o4 b t)]] := ⟨(0 : Nat), rfl, rfl, rfl, C0 _⟩
def g3e (ht : t < 64) {j : Nat} (hj : j < 4) : Rnd (e3h b t W) j [iv (wrap .i64 ((j : Int) + 1))] [] [.box 217 [.vec .u32 64 ((wj b (o4 b t) t j).set t (a3e .or .u32 (b3h .u32 (gi (wj b (o4 b t) t j) t) 8) (wrap .u32 (gi b (Int.toNat (wrap .i64 ((4 : Int) * (t : Int))) + j)))))]] :=
 ⟨(j + 1 : Nat), by rw [n4 hj (by decide)]; rfl, rfl, by rw [e4 ht]; rfl, hj, by show 4 - (j + 1) < 4 - j; omega⟩
def g3f (h3 : t < 16) : Rnd (b3u b W) t [iv (wrap .i64 ((t : Int) + 1))] [] [.box 217 [.vec .u32 64 (wj b (o4 b t) t 4)]] :=
 ⟨(t + 1 : Nat), by rw [n4 h3 (by decide)]; rfl, rfl, by
  have : Nat.blt t 16 = true := D3 h3; simp only [b3u, o4, this, B5], by show t + 1 <= 64; omega, by show 64 - (t + 1) < 64 - t; omega⟩
def g3g (ht : t < 64) (h3 : ¬ t < 16) : Rnd (b3u b W) t [iv (wrap .i64 ((t : Int) + 1))] [] [.box 217 [.vec .u32 64 ((o4 b t).set t (w16 a0a (o4 b t) (Int.toNat (wrap .i64 ((t : Int) - 16))) (Int.toNat (wrap .i64 ((t : Int) - 15))) (Int.toNat (wrap .i64 ((t : Int) - 7))) (Int.toNat (wrap .i64 ((t : Int) - 2)))))]] :=
 ⟨(t + 1 : Nat), by rw [n4 ht (by decide)]; rfl, rfl, by
  have : Nat.blt t 16 = false := by
   cases h : Nat.blt t 16 with
   | false => rfl
   | true => exact absurd (C2 h) h3
  have e1 := eM 16 ht (by omega); have e2 := eM 15 ht (by omega); have e3 := eM 7 ht (by omega); have e4 := eM 2 ht (by omega); simp only [Y7] at e1 e2 e3 e4; rw [e1, e2, e3, e4]; simp only [b3u, o4, this, B8, G6], by show t + 1 <= 64; omega, by show 64 - (t + 1) < 64 - t; omega⟩
end
def g3h (s k w : List Int) {i : Nat} (hi : i < 64) : Rnd (c3s s k w) i [iv (wrap .i64 ((i : Int) + 1)), .i .u32 (ad (c2g a0a (stp a0a s k w i) k w i) (c0d a0a (stp a0a s k w i))), .i .u32 (gi (stp a0a s k w i) 0), .i .u32 (gi (stp a0a s k w i) 1), .i .u32 (gi (stp a0a s k w i) 2), .i .u32 (ad (gi (stp a0a s k w i) 3) (c2g a0a (stp a0a s k w i) k w i)), .i .u32 (gi (stp a0a s k w i) 4), .i .u32 (gi (stp a0a s k w i) 5), .i .u32 (gi (stp a0a s k w i) 6)] [] [] :=
 ⟨(i + 1 : Nat), by rw [n4 hi (by decide)]; rfl, rfl, rfl, by show i + 1 <= 64; omega, by show 64 - (i + 1) < 64 - i; omega⟩
abbrev A4 (t : Nat) : Int := wrap .i64 ((4 : Int) * (t : Int))
def a6p : i8 D := { ash := [.dat (.st 14), .nm 0, .nm 1 4], es := [.box 175 [.dat (.st 15)], .box 261 c0f], rsh := [.dat (.st 14)], pes := [.box 175 [.dat (.st 15)], .box 261 c0f], post := fun a e => ((⟨c9g a.1.l e.1.1.l e.2.1.2.2.2.2.1.l⟩, ()), e) }
def e3i : a6p.ok EF Tp 179 := i8.prove (c := a6p) EF Z0 K0 (H := fun a e => tkH a.1.l e.1.1.l e.2.1.2.2.2.2.1.l 5) (n := 3) fun (a : CL D a6p.ash) (e : EL D a6p.es) (_ : a6p.holds a e) =>
  And.intro (⟨(0 : Nat), rfl, rfl, rfl, Nat.zero_le _⟩ : Ent (b3u e.1.1.l 5) [iv 0] [] [.box 217 [.vec .u32 64 (replicate 64 0)]])
  fun (t : Nat) (h1 : t <= 64) =>
  bq (decide ((t : Int) < 64)) (fun h2 => have ht : t < 64 := by have := of_decide_eq_true h2; omega
    bq (decide ((t : Int) < 16)) (fun h3 => have h16 : t < 16 := by have := of_decide_eq_true h3; omega
      bN (decide (0 <= A4 t) && (decide (A4 t <= wrap .i64 (A4 t + 4)) && (decide (wrap .i64 (A4 t + 4) <= ((64 : Nat) : Int)) && decide (A4 t < ((64 : Nat) : Int))))) (by unfold A4; rw [e5 ht, e4 ht]; simp; omega) (
      And.intro (g3d e.1.1.l 5 (t := t)) fun (j : Nat) (h4 : j <= 4) =>
      bq (decide ((j : Int) < ((Int.toNat (wrap .i64 (A4 t + 4)) - Int.toNat (A4 t) : Nat) : Int))) (fun h5 => have hj : j < 4 := by unfold A4 at h5; rw [e5 ht, e4 ht] at h5; simp at h5; omega
        bN (decide (0 <= (j : Int)) && decide ((j : Int) < ((Int.toNat (wrap .i64 (A4 t + 4)) - Int.toNat (A4 t) : Nat) : Int))) (by rw [h5]; simp) (
        bN (decide (0 <= (t : Int)) && decide ((t : Int) < (64 : Nat))) (b2m ht) (
        bN (decide (0 <= (t : Int)) && decide ((t : Int) < (64 : Nat))) (b2m ht) (
        g3e e.1.1.l 5 ht hj))))
      (fun h5 => have hj : j = 4 := by unfold A4 at h5; rw [e5 ht, e4 ht] at h5; simp at h5; omega
        (by rw [hj]; exact g3f _ _ h16 : Rnd (b3u e.1.1.l 5) t [iv (wrap .i64 ((t : Int) + 1))] [] [.box 217 [.vec .u32 64 (wj e.1.1.l (o4 e.1.1.l t) t j)]]))))
    (fun h3 => have h16 : ¬ t < 16 := by have := of_decide_eq_false h3; omega
      bN (decide (0 <= wrap .i64 ((t : Int) - 15)) && decide (wrap .i64 ((t : Int) - 15) < ((64 : Nat) : Int))) (atM 15 ht (by omega)) (
      bN (decide (0 <= wrap .i64 ((t : Int) - 2)) && decide (wrap .i64 ((t : Int) - 2) < ((64 : Nat) : Int))) (atM 2 ht (by omega)) (
      bN (decide (0 <= wrap .i64 ((t : Int) - 16)) && decide (wrap .i64 ((t : Int) - 16) < ((64 : Nat) : Int))) (atM 16 ht (by omega)) (
      bN (decide (0 <= wrap .i64 ((t : Int) - 7)) && decide (wrap .i64 ((t : Int) - 7) < ((64 : Nat) : Int))) (atM 7 ht (by omega)) (
      bN (decide (0 <= (t : Int)) && decide ((t : Int) < (64 : Nat))) (b2m ht) (
      g3g e.1.1.l 5 ht h16)))))))
  (fun h2 => have ht : t = 64 := by simp at h2; omega
    And.intro (⟨(0 : Nat), rfl, rfl, rfl, Nat.zero_le _⟩ : Ent (c3s a.1.l e.2.1.2.2.2.2.1.l (o4 e.1.1.l 64)) [iv 0, .i .u32 (gi a.1.l 0), .i .u32 (gi a.1.l 1), .i .u32 (gi a.1.l 2), .i .u32 (gi a.1.l 3), .i .u32 (gi a.1.l 4), .i .u32 (gi a.1.l 5), .i .u32 (gi a.1.l 6), .i .u32 (gi a.1.l 7)] [] [])
    fun (i : Nat) (h3 : i <= 64) =>
    bq (decide ((i : Int) < 64)) (fun h4 => have hi : i < 64 := by have := of_decide_eq_true h4; omega
      bN (decide (0 <= (i : Int)) && decide ((i : Int) < (64 : Nat))) (b2m hi) (
      bN (decide (0 <= (i : Int)) && decide ((i : Int) < (64 : Nat))) (b2m hi) (
      (by rw [ht]; exact g3h a.1.l e.2.1.2.2.2.2.1.l (o4 e.1.1.l 64) hi : Rnd (c3s a.1.l e.2.1.2.2.2.2.1.l (o4 e.1.1.l 64)) i [iv (wrap .i64 ((i : Int) + 1)), .i .u32 (ad (c2g a0a (stp a0a a.1.l e.2.1.2.2.2.2.1.l (o4 e.1.1.l 64) i) e.2.1.2.2.2.2.1.l (o4 e.1.1.l t) i) (c0d a0a (stp a0a a.1.l e.2.1.2.2.2.2.1.l (o4 e.1.1.l 64) i))), .i .u32 (gi (stp a0a a.1.l e.2.1.2.2.2.2.1.l (o4 e.1.1.l 64) i) 0), .i .u32 (gi (stp a0a a.1.l e.2.1.2.2.2.2.1.l (o4 e.1.1.l 64) i) 1), .i .u32 (gi (stp a0a a.1.l e.2.1.2.2.2.2.1.l (o4 e.1.1.l 64) i) 2), .i .u32 (ad (gi (stp a0a a.1.l e.2.1.2.2.2.2.1.l (o4 e.1.1.l 64) i) 3) (c2g a0a (stp a0a a.1.l e.2.1.2.2.2.2.1.l (o4 e.1.1.l 64) i) e.2.1.2.2.2.2.1.l (o4 e.1.1.l t) i)), .i .u32 (gi (stp a0a a.1.l e.2.1.2.2.2.2.1.l (o4 e.1.1.l 64) i) 4), .i .u32 (gi (stp a0a a.1.l e.2.1.2.2.2.2.1.l (o4 e.1.1.l 64) i) 5), .i .u32 (gi (stp a0a a.1.l e.2.1.2.2.2.2.1.l (o4 e.1.1.l 64) i) 6)] [] []))))
    (fun h4 => have hi : i = 64 := by simp at h4; omega
      (by rw [hi]; rfl : some (((⟨c0e a.1.l (stp a0a a.1.l e.2.1.2.2.2.2.1.l (o4 e.1.1.l 64) i) 8⟩ : AV .u32 8), ()), e) = some (a6p.post a e))))
def a6q : i8 D := { ash := [.dat (.st 14), .nm 0 76, .nm 0 4], es := [.box 261 c0f], rsh := [.dat (.st 14)], pes := [.box 261 c0f], post := fun a e => ((⟨c9g a.1.l e.1.2.2.2.2.2.2.1.l e.1.2.2.2.2.1.l⟩, ()), e) }
def e3j : a6q.ok EF Tp 179 := i8.prove (c := a6q) EF Z0 K0 (H := fun a e => tkH a.1.l e.1.2.2.2.2.2.2.1.l e.1.2.2.2.2.1.l 4) (n := 3) fun (a : CL D a6q.ash) (e : EL D a6q.es) (_ : a6q.holds a e) =>
  And.intro (⟨(0 : Nat), rfl, rfl, rfl, Nat.zero_le _⟩ : Ent (b3u e.1.2.2.2.2.2.2.1.l 4) [iv 0] [] [.box 217 [.vec .u32 64 (replicate 64 0)]])
  fun (t : Nat) (h1 : t <= 64) =>
  bq (decide ((t : Int) < 64)) (fun h2 => have ht : t < 64 := by have := of_decide_eq_true h2; omega
    bq (decide ((t : Int) < 16)) (fun h3 => have h16 : t < 16 := by have := of_decide_eq_true h3; omega
      bN (decide (0 <= A4 t) && (decide (A4 t <= wrap .i64 (A4 t + 4)) && (decide (wrap .i64 (A4 t + 4) <= ((64 : Nat) : Int)) && decide (A4 t < ((64 : Nat) : Int))))) (by unfold A4; rw [e5 ht, e4 ht]; simp; omega) (
      And.intro (g3d e.1.2.2.2.2.2.2.1.l 4 (t := t)) fun (j : Nat) (h4 : j <= 4) =>
      bq (decide ((j : Int) < ((Int.toNat (wrap .i64 (A4 t + 4)) - Int.toNat (A4 t) : Nat) : Int))) (fun h5 => have hj : j < 4 := by unfold A4 at h5; rw [e5 ht, e4 ht] at h5; simp at h5; omega
        bN (decide (0 <= (j : Int)) && decide ((j : Int) < ((Int.toNat (wrap .i64 (A4 t + 4)) - Int.toNat (A4 t) : Nat) : Int))) (by rw [h5]; simp) (
        bN (decide (0 <= (t : Int)) && decide ((t : Int) < (64 : Nat))) (b2m ht) (
        bN (decide (0 <= (t : Int)) && decide ((t : Int) < (64 : Nat))) (b2m ht) (
        g3e e.1.2.2.2.2.2.2.1.l 4 ht hj))))
      (fun h5 => have hj : j = 4 := by unfold A4 at h5; rw [e5 ht, e4 ht] at h5; simp at h5; omega
        (by rw [hj]; exact g3f _ _ h16 : Rnd (b3u e.1.2.2.2.2.2.2.1.l 4) t [iv (wrap .i64 ((t : Int) + 1))] [] [.box 217 [.vec .u32 64 (wj e.1.2.2.2.2.2.2.1.l (o4 e.1.2.2.2.2.2.2.1.l t) t j)]]))))
    (fun h3 => have h16 : ¬ t < 16 := by have := of_decide_eq_false h3; omega
      bN (decide (0 <= wrap .i64 ((t : Int) - 15)) && decide (wrap .i64 ((t : Int) - 15) < ((64 : Nat) : Int))) (atM 15 ht (by omega)) (
      bN (decide (0 <= wrap .i64 ((t : Int) - 2)) && decide (wrap .i64 ((t : Int) - 2) < ((64 : Nat) : Int))) (atM 2 ht (by omega)) (
      bN (decide (0 <= wrap .i64 ((t : Int) - 16)) && decide (wrap .i64 ((t : Int) - 16) < ((64 : Nat) : Int))) (atM 16 ht (by omega)) (
      bN (decide (0 <= wrap .i64 ((t : Int) - 7)) && decide (wrap .i64 ((t : Int) - 7) < ((64 : Nat) : Int))) (atM 7 ht (by omega)) (
      bN (decide (0 <= (t : Int)) && decide ((t : Int) < (64 : Nat))) (b2m ht) (
      g3g e.1.2.2.2.2.2.2.1.l 4 ht h16)))))))
  (fun h2 => have ht : t = 64 := by simp at h2; omega
    And.intro (⟨(0 : Nat), rfl, rfl, rfl, Nat.zero_le _⟩ : Ent (c3s a.1.l e.1.2.2.2.2.1.l (o4 e.1.2.2.2.2.2.2.1.l 64)) [iv 0, .i .u32 (gi a.1.l 0), .i .u32 (gi a.1.l 1), .i .u32 (gi a.1.l 2), .i .u32 (gi a.1.l 3), .i .u32 (gi a.1.l 4), .i .u32 (gi a.1.l 5), .i .u32 (gi a.1.l 6), .i .u32 (gi a.1.l 7)] [] [])
    fun (i : Nat) (h3 : i <= 64) =>
    bq (decide ((i : Int) < 64)) (fun h4 => have hi : i < 64 := by have := of_decide_eq_true h4; omega
      bN (decide (0 <= (i : Int)) && decide ((i : Int) < (64 : Nat))) (b2m hi) (
      bN (decide (0 <= (i : Int)) && decide ((i : Int) < (64 : Nat))) (b2m hi) (
      (by rw [ht]; exact g3h a.1.l e.1.2.2.2.2.1.l (o4 e.1.2.2.2.2.2.2.1.l 64) hi : Rnd (c3s a.1.l e.1.2.2.2.2.1.l (o4 e.1.2.2.2.2.2.2.1.l 64)) i [iv (wrap .i64 ((i : Int) + 1)), .i .u32 (ad (c2g a0a (stp a0a a.1.l e.1.2.2.2.2.1.l (o4 e.1.2.2.2.2.2.2.1.l 64) i) e.1.2.2.2.2.1.l (o4 e.1.2.2.2.2.2.2.1.l t) i) (c0d a0a (stp a0a a.1.l e.1.2.2.2.2.1.l (o4 e.1.2.2.2.2.2.2.1.l 64) i))), .i .u32 (gi (stp a0a a.1.l e.1.2.2.2.2.1.l (o4 e.1.2.2.2.2.2.2.1.l 64) i) 0), .i .u32 (gi (stp a0a a.1.l e.1.2.2.2.2.1.l (o4 e.1.2.2.2.2.2.2.1.l 64) i) 1), .i .u32 (gi (stp a0a a.1.l e.1.2.2.2.2.1.l (o4 e.1.2.2.2.2.2.2.1.l 64) i) 2), .i .u32 (ad (gi (stp a0a a.1.l e.1.2.2.2.2.1.l (o4 e.1.2.2.2.2.2.2.1.l 64) i) 3) (c2g a0a (stp a0a a.1.l e.1.2.2.2.2.1.l (o4 e.1.2.2.2.2.2.2.1.l 64) i) e.1.2.2.2.2.1.l (o4 e.1.2.2.2.2.2.2.1.l t) i)), .i .u32 (gi (stp a0a a.1.l e.1.2.2.2.2.1.l (o4 e.1.2.2.2.2.2.2.1.l 64) i) 4), .i .u32 (gi (stp a0a a.1.l e.1.2.2.2.2.1.l (o4 e.1.2.2.2.2.2.2.1.l 64) i) 5), .i .u32 (gi (stp a0a a.1.l e.1.2.2.2.2.1.l (o4 e.1.2.2.2.2.2.2.1.l 64) i) 6)] [] []))))
    (fun h4 => have hi : i = 64 := by simp at h4; omega
      (by rw [hi]; rfl : some (((⟨c0e a.1.l (stp a0a a.1.l e.1.2.2.2.2.1.l (o4 e.1.2.2.2.2.2.2.1.l 64) i) 8⟩ : AV .u32 8), ()), e) = some (a6q.post a e))))
abbrev m32 (x : Int) : Int := a3e .and .u64 x 4294967295
abbrev s32 (x : Int) : Int := a6d .u64 x 32
abbrev w64 (x : Int) : Int := wrap .u64 x
def mhi (x y : Int) : Int :=
 let t := w64 (w64 (s32 x * m32 y) + s32 (w64 (m32 x * m32 y)))
 w64 (w64 (w64 (s32 x * s32 y) + s32 t) + s32 (w64 (m32 t + w64 (m32 x * s32 y))))
def c3t : Con D := { ts := [.ik .u64, .ik .u64], rt := [.ik .u64, .ik .u64], ret := fun a => (mhi a.1 a.2.1, w64 (a.1 * a.2.1), ()) }
def f6d : c3t.ok Tp 245 := Con.prove (c := c3t) EF Z0 K0 (H := H0) (n := 0) fun (a : HL D c3t.ts) (_ : c3t.holds a) =>
 (rfl : some (mhi a.1 a.2.1, w64 (a.1 * a.2.1), ()) = some (c3t.ret a))
abbrev Γm := i5 noC 245 c3t
def Km : n3 EF Tp Γm noO := K0.c f6d
def d8k (x : Int) : Int := w64 (mhi x x * x) + mhi (w64 (x * x)) x + 0
def b8e (x p pow : Int) : Bool :=
 bif pow == 2 then bif decide (mhi x x < p) then true else bif mhi x x == p then w64 (x * x) == 0 else false
 else bif d8k x / 18446744073709551616 == 0 then
  bif decide (d8k x % 18446744073709551616 < b3h .u64 p 32) then true else bif d8k x % 18446744073709551616 == b3h .u64 p 32 then w64 (w64 (x * x) * x) == 0 else false
  else false
def b2n : Con D := { ts := [.ik .u64, .ik .u64, .int], rt := [.bool], ret := fun a => (b8e a.1 a.2.1 a.2.2.1, ()) }
def e3k (x : Int) : 0 <= w64 x := by unfold w64; rw [IntKind.wrap_u64]; omega
def wr {c : Bool} {a : HL D b2n.ts} (h : c = b8e a.1 a.2.1 a.2.2.1) : some (c, ()) = some (b2n.ret a) := by rw [h]; rfl
def e9j : b2n.ok Tp 238 := Con.prove (c := b2n) EF Z0 Km (H := H0) (n := 0) fun (a : HL D b2n.ts) (_ : b2n.holds a) =>
 bq (a.2.2.1 == 2) (fun h1 => bq (decide (mhi a.1 a.1 < a.2.1)) (fun h2 => wr (ct h1 (ct h2 rfl))) (fun h2 => bq (mhi a.1 a.1 == a.2.1) (fun h3 => wr (ct h1 (cf h2 (ct h3 rfl)))) (fun h3 => wr (ct h1 (cf h2 (cf h3 rfl))))))
 (fun h1 => bN (decide (0 <= w64 (mhi a.1 a.1 * a.1)) && (decide (0 <= mhi (w64 (a.1 * a.1)) a.1) && (decide (0 <= 0) && decide (0 <= 1)))) (by simp only [A7, C6]; exact ⟨e3k _, e3k _, by decide, by decide⟩) (
  bq (d8k a.1 / 18446744073709551616 == 0) (fun h2 => bq (decide (d8k a.1 % 18446744073709551616 < b3h .u64 a.2.1 32)) (fun h3 => wr (cf h1 (ct h2 (ct h3 rfl)))) (fun h3 => bq (d8k a.1 % 18446744073709551616 == b3h .u64 a.2.1 32) (fun h4 => wr (cf h1 (ct h2 (cf h3 (ct h4 rfl))))) (fun h4 => wr (cf h1 (ct h2 (cf h3 (cf h4 rfl)))))))
  (fun h2 => wr (cf h1 (cf h2 rfl)))))
abbrev Γw := i5 noC 238 b2n
def Kw : n3 EF Tp Γw noO := K0.c e9j
def c0g : Nat -> Int
 | 0 => 68719476736
 | i + 1 => a6d .u64 (c0g i) 1
def a9x (p pow : Int) : Nat -> Int
 | 0 => 0
 | i + 1 => bif b8e (a3e .or .u64 (a9x p pow i) (c0g i)) p pow then a3e .or .u64 (a9x p pow i) (c0g i) else a9x p pow i
def g3i (p pow : Int) : Int := wrap .u32 (a9x p pow 37)
def e3l : (List.range 38).all (fun i => decide (0 < c0g i) == decide (i < 37)) = true := by kernel_rfl
def c9h {i : Nat} (h : i <= 37) : decide (0 < c0g i) = decide (i < 37) := by
 have := J6.1 e3l i (T0.2 (by omega))
 exact J4.1 this
def b5q : Con D := { ts := [.ik .u64, .int], rt := [.ik .u32], ret := fun a => (g3i a.1 a.2.1, ()) }
def b5r (p pow : Int) : LH D := ⟨Nat, [5, 6], fun i => [.i .u64 (a9x p pow i), .i .u64 (c0g i)], fun i => i <= 37, fun i => 37 - i, [], fun _ => [], [], fun _ => []⟩
def e9k : b5q.ok Tp 226 := Con.prove (c := b5q) EF Z0 Kw (H := fun a _ i => match i with | 3 => some (.inv (b5r a.1 a.2.1)) | _ => none) (n := 0) fun (a : HL D b5q.ts) (_ : b5q.holds a) =>
 And.intro (⟨(0 : Nat), rfl, rfl, rfl, C0 _⟩ : Ent (b5r a.1 a.2.1) [.i .u64 0, .i .u64 68719476736] [] [])
 fun (i : Nat) (h1 : i <= 37) =>
 bq (decide (0 < c0g i)) (fun h2 => have hi : i < 37 := A6 ((c9h h1).symm.trans h2)
  bq (b8e (a3e .or .u64 (a9x a.1 a.2.1 i) (c0g i)) a.1 a.2.1)
   (fun h3 => (⟨(i + 1 : Nat), by simp only [b5r, a9x, h3, B5]; rfl, rfl, rfl, hi, by show 37 - (i + 1) < 37 - i; omega⟩ : Rnd (b5r a.1 a.2.1) i [.i .u64 (a3e .or .u64 (a9x a.1 a.2.1 i) (c0g i)), .i .u64 (a6d .u64 (c0g i) 1)] [] []))
   (fun h3 => (⟨(i + 1 : Nat), by simp only [b5r, a9x, h3, B8]; rfl, rfl, rfl, hi, by show 37 - (i + 1) < 37 - i; omega⟩ : Rnd (b5r a.1 a.2.1) i [.i .u64 (a9x a.1 a.2.1 i), .i .u64 (a6d .u64 (c0g i) 1)] [] [])))
 (fun h2 => have hi : i = 37 := by have := A9 ((c9h h1).symm.trans h2); omega
  (by rw [hi]; rfl : some (wrap .u32 (a9x a.1 a.2.1 i), ()) = some (b5q.ret a)))
def P8 : List Int := [2, 3, 5, 7, 11, 13, 17, 19]
def P64 : List Int := [2, 3, 5, 7, 11, 13, 17, 19, 23, 29, 31, 37, 41, 43, 47, 53, 59, 61, 67, 71, 73, 79, 83, 89, 97, 101, 103, 107, 109, 113, 127, 131, 137, 139, 149, 151, 157, 163, 167, 173, 179, 181, 191, 193, 197, 199, 211, 223, 227, 229, 233, 239, 241, 251, 257, 263, 269, 271, 277, 281, 283, 293, 307, 311]
def pI (i : Nat) : Int := ((i + 2 : Nat) : Int)
def pr : Nat -> List Int
 | 0 => []
 | i + 1 => bif (pr i).any (fun p => (pI i).tmod p == 0) then pr i else pr i ++ [pI i]
def Nn (m : Int) : Nat := bif m == 64 then 310 else 18
def e3m : pr 310 = P64 := by kernel_rfl
def f2r : pr 18 = P8 := by kernel_rfl
def f6e : (pr 309).length = 63 := by kernel_rfl
def g3j : (pr 17).length = 7 := by kernel_rfl
def g3k (i : Nat) : (pr i).length <= (pr (i + 1)).length := by
 rw [pr]; cases (pr i).any _ with
 | true => exact B9 _
 | false => simp
def d5b {i j : Nat} (h : i <= j) : (pr i).length <= (pr j).length := by
 induction h with
 | refl => exact B9 _
 | step _ ih => exact D5 ih (g3k _)
def d2j : ∀ (i : Nat) (x : Int), x ∈ pr i -> 2 <= x
 | 0, x, h => by cases h
 | i + 1, x, h => by
  rw [pr] at h; cases hc : (pr i).any (fun p => (pI i).tmod p == 0) with
  | true => rw [hc] at h; exact d2j i x h
  | false =>
   rw [hc] at h; rcases D4.1 h with h | h
   ·exact d2j i x h
   ·rw [F3] at h; subst h; unfold pI; omega
def isM (m : Int) : Prop := m = 8 ∨ m = 64
def g3l {m : Int} (h : isM m) : ((pr (Nn m)).length : Int) = m := by
 rcases h with rfl | rfl
 ·show ((pr 18).length : Int) = 8; rw [f2r]; rfl
 ·show ((pr 310).length : Int) = 64; rw [e3m]; rfl
def g7h {m : Int} (h : isM m) : pr (Nn m) = bif m == 64 then P64 else P8 := by
 rcases h with rfl | rfl
 ·exact f2r
 ·exact e3m
def d2k {m : Int} (h : isM m) {i : Nat} (hi : i < Nn m) : ((pr i).length : Int) < m := by
 rcases h with rfl | rfl
 ·have h1 : i <= 17 := Nat.le_of_lt_succ hi; have := d5b h1; rw [g3j] at this; omega
 ·have h1 : i <= 309 := Nat.le_of_lt_succ hi; have := d5b h1; rw [f6e] at this; omega
def g3m (m : Int) : Nn m <= 310 := by unfold Nn; cases m == 64 <;> decide
def g3n : j0 Tp 196 = 8 := by kernel_rfl
def a9y : Con D := { ts := [.int], rt := [.sl (.ik .u64)], pre := some (fun a => isM a.1), ret := fun a => (bif a.1 == 64 then P64 else P8, ()) }
def d5c (N : Nat) : LH D := ⟨Nat, [4, 3], fun i => [.i .u64 (pI i), .own 0], fun i => i <= N, fun i => N - i, [(.sl 3, .ik .u64, 196)], fun i => [.arr (.ik .u64) 196 (pr i)], [], fun _ => []⟩
def e3n (l : List Int) (n : Int) : LH D := ⟨Nat, [15], fun j => [.i .i64 (j : Nat)], fun j => j <= l.length /\ (l.take j).any (fun p => n.tmod p == 0) = false, fun j => l.length - j, [], fun _ => [], [], fun _ => []⟩
def f6f {l : List Int} {n : Int} {j : Nat} (hj : j < l.length) (h : (n.tmod (gi l j) == 0) = true) : l.any (fun p => n.tmod p == 0) = true :=
 V9.2 ⟨gi l j, by unfold gi; rw [B3, B2 hj]; exact M6 hj, h⟩
def e3o {l : List Int} {n : Int} {j : Nat} (hj : j < l.length) (h0 : (l.take j).any (fun p => n.tmod p == 0) = false) (h : (n.tmod (gi l j) == 0) = false) : (l.take (j + 1)).any (fun p => n.tmod p == 0) = false := by
 rw [List.take_add_one, List.any_append, h0, B2 hj]
 have : gi l j = l[j] := by unfold gi; rw [B3, B2 hj]; rfl
 rw [this] at h
 simp [h]
def d5d {i : Nat} (h : i <= 310) : wrap .u64 (pI i + 1) = pI (i + 1) := by unfold pI; rw [IntKind.wrap_u64]; omega
def d8l : a9y.ok Tp 225 := Con.prove (c := a9y) EF Z0 K0 (H := fun a _ r => match r with | 3 => some (.inv (d5c (Nn a.1))) | 6 => some (.dep fun s => .inv (e3n (owI s 13) (slI s 4))) | _ => none) (n := 0) fun (a : HL D a9y.ts) (hp : isM a.1) =>
 And.intro (⟨(0 : Nat), rfl, rfl, rfl, C0 _⟩ : Ent (d5c (Nn a.1)) [.i .u64 2, .own 0] [.arr (.ik .u64) 196 []] [])
 fun (i : Nat) (h1 : i <= Nn a.1) =>
 bq (decide (((pr i).length : Int) < a.1)) (fun h2 =>
  have hi : i < Nn a.1 := by
   have h2 := A6 h2; rcases R6 i (Nn a.1) with h | h
   ·exact h
   ·have : i = Nn a.1 := Nat.le_antisymm h1 h; rw [this, g3l hp] at h2; omega
  have h31 : i <= 310 := D5 h1 (g3m _)
  And.intro (⟨(0 : Nat), rfl, rfl, rfl, C0 _, rfl⟩ : Ent (e3n (pr i) (pI i)) [iv 0] [] [])
  fun (j : Nat) (h3 : j <= (pr i).length /\ ((pr i).take j).any (fun p => (pI i).tmod p == 0) = false) =>
  bq (decide ((j : Int) < ((pr i).length : Int))) (fun h4 =>
   have hj : j < (pr i).length := by have := A6 h4; omega
   have hl : (pr i).length <= 64 := by have := d2k hp hi; rcases hp with h | h <;> omega
   bN (decide (0 <= (j : Int)) && decide ((j : Int) < ((pr i).length : Int))) (by simp; omega) (
   bN (gi (pr i) j != 0) (by
    have : 2 <= gi (pr i) j := d2j i _ (by unfold gi; rw [B3, B2 hj]; exact M6 hj); simp only [Y3, ne_eq]; omega) (
   bq ((pI i).tmod (gi (pr i) j) == 0)
    (fun h5 => (⟨(i + 1 : Nat), by rw [d5d h31]; rfl, by show _ = [HB.arr (.ik .u64) 196 (pr (i + 1))]; rw [pr, f6f hj h5]; rfl, rfl, hi, by show Nn a.1 - (i + 1) < Nn a.1 - i; omega⟩ : Rnd (d5c (Nn a.1)) i [.i .u64 (wrap .u64 (pI i + 1)), .own 0] [.arr (.ik .u64) 196 (pr i)] []))
    (fun h5 => (⟨(j + 1 : Nat), by rw [n4 hj (D5 hl (by decide))]; rfl, rfl, rfl, ⟨hj, e3o hj h3.2 h5⟩, by show (pr i).length - (j + 1) < (pr i).length - j; omega⟩ : Rnd (e3n (pr i) (pI i)) j [iv (wrap .i64 ((j : Int) + 1))] [] [])))))
  (fun h4 =>
   have hj : j = (pr i).length := by have := A9 h4; omega
   have hl : (pr i).length <= 64 := by have := d2k hp hi; rcases hp with h | h <;> omega
   bN (Nat.ble (((pr i).length + 1) * j0 Tp 196) d4) (by rw [g3n]; exact D3 (by unfold d4; omega)) (
   (⟨(i + 1 : Nat), by rw [d5d h31]; rfl, by
     show _ = [HB.arr (.ik .u64) 196 (pr (i + 1))]; have := h3.2; rw [hj, D1] at this; rw [pr, this]; rfl, rfl, hi, by show Nn a.1 - (i + 1) < Nn a.1 - i; omega⟩ : Rnd (d5c (Nn a.1)) i [.i .u64 (wrap .u64 (pI i + 1)), .own 0] [.arr (.ik .u64) 196 (pr i ++ [pI i])] []))))
 (fun h2 =>
  have hi : i = Nn a.1 := by
   rcases R6 i (Nn a.1) with h | h
   ·have h2 := A9 h2; exact absurd (d2k hp h) h2
   ·exact Nat.le_antisymm h1 h
  (by rw [hi, g7h hp]; rfl : some (pr i, ()) = some (a9y.ret a)))
def KL : List Int := [1116352408, 1899447441, 3049323471, 3921009573, 961987163, 1508970993, 2453635748, 2870763221, 3624381080, 310598401, 607225278, 1426881987, 1925078388, 2162078206, 2614888103, 3248222580, 3835390401, 4022224774, 264347078, 604807628, 770255983, 1249150122, 1555081692, 1996064986, 2554220882, 2821834349, 2952996808, 3210313671, 3336571891, 3584528711, 113926993, 338241895, 666307205, 773529912, 1294757372, 1396182291, 1695183700, 1986661051, 2177026350, 2456956037, 2730485921, 2820302411, 3259730800, 3345764771, 3516065817, 3600352804, 4094571909, 275423344, 430227734, 506948616, 659060556, 883997877, 958139571, 1322822218, 1537002063, 1747873779, 1955562222, 2024104815, 2227730452, 2361852424, 2428436474, 2756734187, 3204031479, 3329325298]
def SL : List Int := [1779033703, 3144134277, 1013904242, 2773480762, 1359893119, 2600822924, 528734635, 1541459225]
abbrev Γr := i5 (i5 noC 226 b5q) 225 a9y
def Kr : n3 EF Tp Γr noO := (K0.c e9k).c d8l
def HR {α : Type} : α -> Nat -> Nat -> Option (Hint D) := fun _ _ _ => some (.unr 65)
def b1a : Con D := { ts := [], rt := [.st 16], ret := fun _ => (⟨KL⟩, ()) }
def e3p : b1a.ok Tp 211 := Con.prove (c := b1a) EF Z0 Kr (H := HR) (n := 0) fun (a : HL D b1a.ts) (_ : b1a.holds a) =>
 And.intro (Pre.mk (.inr rfl : isM 64)) (rfl : some ((⟨KL⟩ : AV .u32 64), ()) = some (b1a.ret a))
def b1b : Con D := { ts := [], rt := [.st 14], ret := fun _ => (⟨SL⟩, ()) }
def e3q : b1b.ok Tp 212 := Con.prove (c := b1b) EF Z0 Kr (H := HR) (n := 0) fun (a : HL D b1b.ts) (_ : b1b.holds a) =>
 And.intro (Pre.mk (.inl rfl : isM 8)) (rfl : some ((⟨SL⟩ : AV .u32 8), ()) = some (b1b.ret a))
end
end Go.Proofs.YtpbcabanpppfoaaGreat
namespace Go.Proofs.YtpbcabanpppfoaaGreat
open Go Go.Gx Go.Vz
open Go.IntKind (wrap)
open List (flatMap getD length take replicate)
noncomputable section
def c9i (w : World) : (callFunc 247 #[]).run Tryz.prog w = .ok (.value (.tuple #[])) w := run_call_mark0 Tryz.func247 (by kernel_rfl) (by kernel_rfl) (by kernel_rfl) .disable (by kernel_rfl) w
def d5e (w : World) : (callFunc 249 #[]).run Tryz.prog w = .ok (.value (.tuple #[])) w := run_call_mark0 Tryz.func249 (by kernel_rfl) (by kernel_rfl) (by kernel_rfl) .enable (by kernel_rfl) w
def e3r (a : Addr) (w : World) : (callFunc 250 #[.pointer (some a)]).run Tryz.prog w = .ok (.value (.tuple #[])) w := run_call_marked Tryz.func250 (by kernel_rfl) (by kernel_rfl) (by kernel_rfl) .acquire (by kernel_rfl) a w
def e3s (a : Addr) (w : World) : (callFunc 252 #[.pointer (some a)]).run Tryz.prog w = .ok (.value (.tuple #[])) w := run_call_marked Tryz.func252 (by kernel_rfl) (by kernel_rfl) (by kernel_rfl) .releaseMerge (by kernel_rfl) a w
def c0h (a : Addr) (x : Value) (u : FrameMode) (w : World) (hc : w.cell? a = some x) (hz : w.frozen? a = false) :
  CallsD Tryz.prog 237 #[.pointer (some a), .bool true] u w fun e u' w' => u' = u /\ (e = .returned (.tuple #[]) /\ w' = w.drew.setCell a (.int .u32 1)) := by
 have hc' : w.drew.cell? a = some x := by go_simp
 have hz' : w.drew.frozen? a = false := by go_simp
 have hst := run_call_store (P := Tryz.prog) Tryz.func243 (by kernel_rfl) (by kernel_rfl) (by kernel_rfl) (by kernel_rfl) (k := .u32) (y := 1) hc' hz'
 go_enter_d Tryz.func237, Tryz.ntmps237
 go_wp2
 go_region_calls
 all_goals (go_end0; exact ⟨rfl, rfl⟩)
set_option maxRecDepth 100000 in
def b7n (a : Addr) (u : FrameMode) (w : World) (hc : w.cell? a = some (.int .i32 1)) (hz : w.frozen? a = false) :
  CallsD Tryz.prog 236 #[.pointer (some a)] u w fun e u' w' => u' = u /\ (e = .returned (.tuple #[]) /\ w' = w.setCell a (.int .i32 0)) := by
 have hd := c9i
 have he := d5e
 have hr := e3s
 have hadd := run_call_add (P := Tryz.prog) Tryz.func253 (by kernel_rfl) (by kernel_rfl) (by kernel_rfl) .i32 (by kernel_rfl) (y := -1) (s := 0) hc hz (by simp [go_sem]; rfl)
 have hcv := run_convert_to_unsafe (P := Tryz.prog) (src := 321) (dst := 325) Tryz.underlying321 Tryz.underlying325 (by kernel_rfl) hc
 go_enter_d Tryz.func236, Tryz.ntmps236
 go_wp2
 go_end0
 go_wp2
 go_end0
 exact ⟨rfl, rfl⟩
set_option maxRecDepth 100000 in
def d8m (a : Addr) (w : World) (hc : w.cell? a = some (.int .i32 0)) (hz : w.frozen? a = false) :
  Calls Tryz.prog 235 #[.pointer (some a)] w fun e w' => e = .returned (.tuple #[]) /\ w' = w.setCell a (.int .i32 1) := by
 have hd := c9i
 have he := d5e
 have ha := e3r
 have hcas := run_call_cas_hit (P := Tryz.prog) Tryz.func248 (by kernel_rfl) (by kernel_rfl) (by kernel_rfl) .i32 (by kernel_rfl) (y := 1) hc hz
 have hc' : (w.setCell a (.int .i32 1)).cell? a = some (.int .i32 1) := World.cell?_setCell_same w a _ hc
 have hcv := run_convert_to_unsafe (P := Tryz.prog) (src := 321) (dst := 325) Tryz.underlying321 Tryz.underlying325 (by kernel_rfl) hc'
 go_enter Tryz.func235, Tryz.ntmps235
 go_wp2
 first | go_end0 | (simp only [Exit.inBlock, Exit.then]; refine bodyPost_ret (results_none rfl _ _ _) rfl ?_) | refine bodyPost_ret (results_none rfl _ _ _) rfl ?_
 go_wp2
 go_end0
 exact ⟨rfl, rfl⟩
set_option maxRecDepth 100000 in
set_option maxHeartbeats 1600000 in
def e3t (b off : Nat) (g : FuncId) (caps : Array Value) (w : World) (R : World -> Prop) (hg : ∀ w, (callFunc g caps).run Tryz.prog w = .ok (.enter g caps) w)
  (h0 : w.cell? ⟨b, off, none⟩ = some (.int .u32 0)) (h1 : w.cell? ⟨b, off + 1, none⟩ = some (.int .i32 0))
  (f0 : w.frozen? ⟨b, off, none⟩ = false) (f1 : w.frozen? ⟨b, off + 1, none⟩ = false)
  (hcall : Calls Tryz.prog g caps (w.setCell ⟨b, off + 1, none⟩ (.int .i32 1)) fun e w2 => e = .returned (.tuple #[]) /\ w2.cell? ⟨b, off, none⟩ = some (.int .u32 0) /\ w2.cell? ⟨b, off + 1, none⟩ = some (.int .i32 1) /\
   w2.frozen? ⟨b, off, none⟩ = false /\ w2.frozen? ⟨b, off + 1, none⟩ = false /\ R ((w2.drew.setCell ⟨b, off, none⟩ (.int .u32 1)).setCell ⟨b, off + 1, none⟩ (.int .i32 0))) :
  Calls Tryz.prog 224 #[.pointer (some ⟨b, off, none⟩), .func (.func g) #[] caps] w fun e w' => e = .returned (.tuple #[]) /\ R w' := by
 have hl := run_call_load (P := Tryz.prog) Tryz.func234 (by kernel_rfl) (by kernel_rfl) (by kernel_rfl) .u32 (by kernel_rfl) (w := w.setCell ⟨b, off + 1, none⟩ (.int .i32 1)) (a := ⟨b, off, none⟩) (x := 0) ((World.cell?_setCell_other _ ⟨b, off + 1, none⟩ ⟨b, off, none⟩ _ (by simp)).trans h0)
 have hnot : ∀ (x : Bool) (w : World), (Op.unary .not (.bool x)).run Tryz.prog w = .ok (.bool (!x)) w := fun _ _ => rfl
 go_enter_defers Tryz.func224, Tryz.ntmps224
 go_wp2_with (go_at_call 235; refine (d8m ⟨b, off + 1, none⟩ _ (by go_simp) (by go_simp)).mono ?_; rintro e w' ⟨rfl, rfl⟩)
 go_wp2
 refine hcall.mono ?_
 rintro e w2 ⟨rfl, c0, c1, z0, z1, hR⟩
 simp only []
 go_wp2
 refine leaves_cons (f := 237) (args := #[.pointer (some ⟨b, off, none⟩), .bool true]) (by simp) (by simp [go_sem]) ?_
 refine (c0h ⟨b, off, none⟩ (.int .u32 0) .returning _ c0 z0).mono ?_
 rintro e u' w'' ⟨rfl, rfl, rfl⟩
 refine leaves_cons (f := 236) (args := #[.pointer (some ⟨b, off + 1, none⟩)]) (by simp [settle]) (by simp [go_sem]) ?_
 refine (b7n ⟨b, off + 1, none⟩ _ _ ?_ (by simp [z1])).mono ?_
 ·refine (World.cell?_setCell_other _ ⟨b, off, none⟩ ⟨b, off + 1, none⟩ _ (by simp)).trans ?_; rw [World.cell?_drew]; exact c1
 rintro e u' w'' ⟨rfl, rfl, rfl⟩
 simpa [Leaves, settle, results, Tryz.results224] using hR
set_option maxRecDepth 100000 in
set_option maxHeartbeats 1600000 in
def e3u (b off : Nat) (g : FuncId) (caps : Array Value) (w : World) (R : World -> Prop) (hg : ∀ w, (callFunc g caps).run Tryz.prog w = .ok (.enter g caps) w)
  (h0 : w.cell? ⟨b, off, none⟩ = some (.int .u32 0)) (h1 : w.cell? ⟨b, off + 1, none⟩ = some (.int .i32 0))
  (f0 : w.frozen? ⟨b, off, none⟩ = false) (f1 : w.frozen? ⟨b, off + 1, none⟩ = false)
  (hcall : Calls Tryz.prog g caps (w.setCell ⟨b, off + 1, none⟩ (.int .i32 1)) fun e w2 => e = .returned (.tuple #[]) /\ w2.cell? ⟨b, off, none⟩ = some (.int .u32 0) /\ w2.cell? ⟨b, off + 1, none⟩ = some (.int .i32 1) /\
   w2.frozen? ⟨b, off, none⟩ = false /\ w2.frozen? ⟨b, off + 1, none⟩ = false /\ R ((w2.drew.setCell ⟨b, off, none⟩ (.int .u32 1)).setCell ⟨b, off + 1, none⟩ (.int .i32 0))) :
  Calls Tryz.prog 209 #[.pointer (some ⟨b, off, none⟩), .func (.func g) #[] caps] w fun e w' => e = .returned (.tuple #[]) /\ R w' := by
 have hl := run_call_load (P := Tryz.prog) Tryz.func234 (by kernel_rfl) (by kernel_rfl) (by kernel_rfl) .u32 (by kernel_rfl) h0
 have hnot : ∀ (x : Bool) (w : World), (Op.unary .not (.bool x)).run Tryz.prog w = .ok (.bool (!x)) w := fun _ _ => rfl
 go_enter Tryz.func209, Tryz.ntmps209
 go_wp2_with (first | (go_at_call 224; refine (e3t b off g caps _ R hg h0 h1 f0 f1 hcall).mono ?_; rintro e w' ⟨rfl, hR⟩) | (go_at_call 223; go_in))
 go_end0
 exact ⟨rfl, hR⟩
def d8n (a : Addr) (d : Int) (hd : ¬ d = 0) (fv : Value) (w : World) (h0 : w.cell? a = some (.int .u32 d)) :
  Calls Tryz.prog 209 #[.pointer (some a), fv] w fun e w' => e = .returned (.tuple #[]) /\ w' = w := by
 have hl := run_call_load (P := Tryz.prog) Tryz.func234 (by kernel_rfl) (by kernel_rfl) (by kernel_rfl) .u32 (by kernel_rfl) h0
 have hnot : ∀ (x : Bool) (w : World), (Op.unary .not (.bool x)).run Tryz.prog w = .ok (.bool (!x)) w := fun _ _ => rfl
 have hd' : (d != 0) = true := by simp [hd]
 go_enter Tryz.func209, Tryz.ntmps209
 go_wp2
 go_end0
 exact ⟨rfl, rfl⟩
def f6g : e2l Tryz.prog 209 := ⟨fun b off g caps w R hg h0 h1 f0 f1 hcall => e3u b off g caps w R (a4x hg caps) h0 h1 f0 f1 hcall, fun b off v w h => d8n ⟨b, off, none⟩ 1 (by simp) v w h⟩
end
end Go.Proofs.YtpbcabanpppfoaaGreat
namespace Go.Proofs.YtpbcabanpppfoaaGreat
open Go Go.Gx Go.Vz
open Go.IntKind (wrap)
open List (flatMap getD length take replicate)
set_option maxRecDepth 100000
noncomputable section
abbrev HD := CL D c0f
def f6h (e : HD) : HD := bif e.2.1 == 0 then (e.1, 1, 0, e.2.2.2.1, ⟨KL⟩, ⟨SL⟩, e.2.2.2.2.2.2) else e
def a3x : i8 D := { ash := [.nm 0], es := [.box 261 c0f], rsh := [], pes := [.box 261 c0f], pre := some fun _ e => e.1.2.1 = 0 /\ e.1.2.2.1 = 0 ∨ e.1.2.1 = 1, post := fun _ e => ((), (f6h e.1, ())) }
def rd0 (i : HD) : CL D a3x.ash × EL D a3x.es := ((), ((i.1, 0, 0, i.2.2.2), ()))
def rd1 (i : HD) : CL D a3x.ash × EL D a3x.es := ((), ((i.1, 1, i.2.2), ()))
abbrev Γs := i5 (i5 noC 211 b1a) 212 b1b
theorem Ks : n3 EF Tp Γs noO := (K0.c e3p).c e3q
def g3o : j7 D := e2m Tp 209 (a0g EF Z0 Γs noO (fun _ _ => none) 1) noH
theorem e3v : j5 Tp g3o := e2n f6g (m7 Z0 Ks 1) a7a
theorem e3w : a3x.ok EF Tp 178 := i8.proveHS2 (c := a3x) EF Z0 rd0 rd1 (fun a e h => by
  obtain ⟨⟨b, d, q, r⟩, u⟩ := e; rcases h with ⟨h1, h2⟩ | h1
  ·have h1 : d = 0 := h1; have h2 : q = 0 := h2; exact .inl ⟨(b, d, q, r), by rw [h1, h2]; rfl⟩
  ·have h1 : d = 1 := h1; exact .inr ⟨(b, d, q, r), by rw [h1]; rfl⟩) (H := fun _ _ _ => none) (H2 := fun _ _ _ => none) e3v
 (fun (i : HD) => (rfl : some ((), (f6h (i.1, 0, 0, i.2.2.2), ())) = some (a3x.post (rd0 i).1 (rd0 i).2)))
 (fun (i : HD) => (rfl : some ((), (f6h (i.1, 1, i.2.2), ())) = some (a3x.post (rd1 i).1 (rd1 i).2)))
def tkK (st b : List Int) : List Int := c9g st b KL
def lbI (all : Int) (i : Nat) : Int := ((UInt8.ofNat (Int.toNat (wrap .u8 (a6d .u64 (wrap .u64 (8 * wrap .u64 all)) (wrap .i64 (8 * ((i : Nat) : Int))))))).toNat : Nat)
def dgO (st : List Int) : Nat -> Dig
 | 0 => Dig.zero
 | i + 1 => a5q (dgO st i) i (UInt8.ofNat (Int.toNat (wrap .u8 (a6d .u32 (gi st (i / 4)) ((24 - 8 * (i % 4) : Nat) : Int)))))
def c0i (b : List UInt8) : Int := wrap .i64 (0 + (b.length : Nat))
def wrW (b : List UInt8) : List Int × List Int × Nat := wrF tkK (b.length + 1) b SL (replicate 64 0) 0
def a4d (b : List UInt8) : Dig := dgO (e2q tkK (lbI (c0i b)) (wrW b).1 (wrW b).2.1 (wrW b).2.2) 32
structure WI where
  rem : List UInt8
  st : List Int
  bl : List Int
  h : Nat
abbrev e9l (st bl : List Int) (h all : Int) : List (SV D) := [.b true, .i .u32 1, .i .i32 0, .i .u32 0, .vec .u32 64 KL, .vec .u32 8 st, .vec .u8 64 bl, .i .i64 h, .i .i64 all]
def d8o (b : List UInt8) : LH D := ⟨WI, [1], fun i => [.sl .u8 i.rem], fun i => i.h < 64 /\ ∃ f, i.rem.length < f /\ wrF tkK f i.rem i.st i.bl i.h = wrW b, fun i => i.rem.length, [], fun _ => [], [1], fun i => [.box 261 (e9l i.st i.bl (i.h : Nat) (c0i b))]⟩
abbrev nW (i : WI) : Nat := Nat.min i.rem.length (64 - i.h)
abbrev blW (i : WI) : List Int := a7l i.bl i.h (u8s (i.rem.take (64 - i.h)))
theorem d5f {f : Nat} {i : WI} (h : 0 < i.rem.length) : wrF tkK (f + 1) i.rem i.st i.bl i.h = bif Nat.beq (i.h + nW i) 64 then wrF tkK f (i.rem.drop (nW i)) (tkK i.st (blW i)) (blW i) 0 else wrF tkK f (i.rem.drop (nW i)) i.st (blW i) (i.h + nW i) := by
 simp only [wrF, h, O2, B5]
theorem f6i {f : Nat} {i : WI} (h : ¬ 0 < i.rem.length) : wrF tkK f i.rem i.st i.bl i.h = (i.st, i.bl, i.h) := by
 cases f with
 | zero => rfl
 | succ f => simp only [wrF, h, P3, B8]
theorem g7i {a b : Nat} (h : a ≠ b) : Nat.beq a b = false := by
 cases e : Nat.beq a b with
 | false => rfl
 | true => exact absurd (A8 e) h
theorem f2s (i : WI) : nW i <= 64 - i.h := T3 _ _
theorem d2l {i : WI} (h : 0 < i.rem.length) (hl : i.h < 64) : 0 < nW i /\ nW i <= i.rem.length := ⟨Nat.lt_min.2 ⟨h, by omega⟩, Nat.min_le_left _ _⟩
theorem f2t {i : WI} (hl : i.h < 64) : wrap .i64 ((i.h : Int) + (nW i : Int)) = ((i.h + nW i : Nat) : Int) := by
 rw [<- Z7]; exact n9 (by have := f2s i; omega)
section
variable {b : List UInt8} {i : WI} (hI : (d8o b).inv i) (h4 : 0 < i.rem.length)
include hI h4
theorem g7j (h5 : (wrap .i64 ((i.h : Int) + (nW i : Int)) == 64) = true) : Rnd (d8o b) i [.sl .u8 (List.drop (nW i) (take i.rem.length i.rem))] [] [.box 261 (e9l (c9g i.st (blW i) KL) (blW i) 0 (c0i b))] := by
 obtain ⟨hl, f, hf, hW⟩ := hI
 rw [f2t hl] at h5
 have h6 : i.h + nW i = 64 := by have := eq_of_beq h5; omega
 obtain ⟨n1, n2⟩ := d2l h4 hl
 refine ⟨⟨i.rem.drop (nW i), tkK i.st (blW i), blW i, 0⟩, by rw [D1]; rfl, rfl, rfl, ⟨by show 0 < 64; omega, f - 1, ?_, ?_⟩, ?_⟩
 ·show (i.rem.drop (nW i)).length < f - 1; rw [H7]; omega
 ·obtain ⟨g, rfl⟩ : ∃ g, f = g + 1 := ⟨f - 1, by omega⟩; rw [d5f h4, h6] at hW; exact hW
 ·show (i.rem.drop (nW i)).length < i.rem.length; rw [H7]; omega
theorem g7k (h5 : (wrap .i64 ((i.h : Int) + (nW i : Int)) == 64) = false) : Rnd (d8o b) i [.sl .u8 (List.drop (nW i) (take i.rem.length i.rem))] [] [.box 261 (e9l i.st (blW i) (wrap .i64 ((i.h : Int) + (nW i : Int))) (c0i b))] := by
 obtain ⟨hl, f, hf, hW⟩ := hI
 rw [f2t hl] at h5 ⊢
 have h6 : i.h + nW i ≠ 64 := by intro e; rw [e] at h5; cases h5
 obtain ⟨n1, n2⟩ := d2l h4 hl
 have := f2s i
 refine ⟨⟨i.rem.drop (nW i), i.st, blW i, i.h + nW i⟩, by rw [D1]; rfl, rfl, rfl, ⟨by show i.h + nW i < 64; omega, f - 1, ?_, ?_⟩, ?_⟩
 ·show (i.rem.drop (nW i)).length < f - 1; rw [H7]; omega
 ·obtain ⟨g, rfl⟩ : ∃ g, f = g + 1 := ⟨f - 1, by omega⟩; rw [d5f h4, g7i h6] at hW; exact hW
 ·show (i.rem.drop (nW i)).length < i.rem.length; rw [H7]; omega
end
def c5y : Con D := { ts := [.sl .u8], rt := [.dig], ret := fun a => (a4d a.1, ()) }
def g7l (f : Nat) (l : List (SV D)) : Bool := Nat.beq f 179 && (match l with | [_, .ptr i _, .ptr j _] => Nat.beq i j | _ => false)
def ofH (b : List UInt8) : Nat -> Nat -> Option (Hint D) := fun f r => match f, r with | 139, 5 => some (.inv (d8o b)) | 140, _ => some (.unr 33) | _, _ => none
theorem Kt1 : n3 EF Tp noC (u6 noO 179 a6q) := K0.o e3j
theorem Kt2 : n3 EF Tp noC (u6 (u6 noO 178 a3x) 179 a6p) := (K0.o e3w).o e3i
theorem g3p : c5y.ok Tp 91 := Con.proveH (c := c5y) EF Z0 (H := fun a => ofH a.1) (call := fun a => d2d EF Z0 g7l noC (u6 noO 179 a6q) (u6 (u6 noO 178 a3x) 179 a6p) (ofH a.1) 2) (fun a => c3j EF Z0 Kt1 Kt2 2) fun (a : HL D c5y.ts) (_ : c5y.holds a) =>
 pQ ((0 : Int) = 0 /\ (0 : Int) = 0 ∨ (0 : Int) = 1) (.inl ⟨rfl, rfl⟩) (
 brL fun hl : a.1.length <= d4 =>
 And.intro (⟨⟨a.1, SL, replicate 64 0, 0⟩, rfl, rfl, rfl, ⟨by show 0 < 64; omega, a.1.length + 1, N4 _, rfl⟩⟩ : Ent (d8o a.1) [.sl .u8 a.1] [] [.box 261 (e9l SL (replicate 64 0) 0 (c0i a.1))])
 fun (i : WI) (hI : (d8o a.1).inv i) =>
 brL fun hl2 : i.rem.length <= d4 =>
 bq (decide (0 < (i.rem.length : Int))) (fun h4 => have h4' : 0 < i.rem.length := by simpa using h4
  have hh : i.h < 64 := hI.1
  bN (decide (0 <= (i.h : Int)) && (decide ((i.h : Int) <= (64 : Nat)) && (decide (((64 : Nat) : Int) <= (64 : Nat)) && decide ((i.h : Int) < (64 : Nat))))) (by simp; omega) (
  bN (decide (0 <= ((nW i : Nat) : Int)) && (decide (((nW i : Nat) : Int) <= (i.rem.length : Int)) && decide ((i.rem.length : Int) <= (i.rem.length : Int)))) (by have := (d2l h4' hh).2; simp; omega) (
  bq (wrap .i64 ((i.h : Int) + (nW i : Int)) == 64) (fun h5 => g7j hI h4' h5) (fun h5 => g7k hI h4' h5))))
 (fun h4 => have h4' : ¬ 0 < i.rem.length := by simpa using h4
  have hW : wrW a.1 = (i.st, i.bl, i.h) := by obtain ⟨_, f, _, hW⟩ := hI; rw [<- hW]; exact f6i h4'
  have hh : i.h < 64 := hI.1
  pQ ((1 : Int) = 0 /\ (0 : Int) = 0 ∨ (1 : Int) = 1) (.inr rfl) (
  b1n (
  bN (decide (0 <= (i.h : Int)) && (decide ((i.h : Int) <= (64 : Nat)) && (decide (((64 : Nat) : Int) <= (64 : Nat)) && decide ((i.h : Int) < (64 : Nat))))) (by simp; omega) (
  bN (iX (i.h : Int) ((64 : Nat) : Int)) (by simp; omega) (
  bq (decide (56 <= (i.h : Int))) (fun h6 =>
   (by
    have h6 : decide (56 <= i.h) = true := by simp at h6 ⊢; omega
    unfold c5y a4d; simp only [hW, e2q, h6, B5] : some (dgO (tkK (tkK i.st (c5x i.bl i.h)) (d2e (lbI (c0i a.1)) (a7l (c5x i.bl i.h) 0 (replicate 64 0)) 8)) 32, ()) = some (c5y.ret a)))
  (fun h6 =>
   (by
    have h6 : decide (56 <= i.h) = false := by simp at h6 ⊢; omega
    unfold c5y a4d; simp only [hW, e2q, h6, B8] : some (dgO (tkK i.st (d2e (lbI (c0i a.1)) (c5x i.bl i.h) 8)) 32, ()) = some (c5y.ret a)))))))))
abbrev BS : List ES := [.box 107 [.nm 1, .nm 2, .dat .int], .map .dig .str, .map .str .bool]
def Kbo : n3 EF Tp (i5 noC 91 c5y) noO := K0.c g3p
def bkS (b : List UInt8) (m : List (Dig × List UInt8)) : List (Dig × List UInt8) := bif !(a0f (E := D) .dig .str m (a4d b)).isSome then j6 (E := D) .dig .str m (a4d b) b else m
def bkM (b : List UInt8) (m : List (Dig × List UInt8)) (r : List (List UInt8 × Bool)) : List (List UInt8 × Bool) := bif !(a0f (E := D) .dig .str m (a4d b)).isSome then r else bif !decide ((a0f (E := D) .dig .str m (a4d b)).getD [] = b) then j6 (E := D) .str .bool r b true else r
def b2o : i8 D := { ash := [.nm 0, .dat (.sl .u8)], es := BS, rsh := [.dat .dig, .dat .int], pes := BS, pre := some (fun a _ => a.1.length <= 65536), post := fun a e => ((a4d a.1, (0 : Int), ()), (wrap .i64 (e.1.1 + 1), ()), bkS a.1 e.2.1, bkM a.1 e.2.1 e.2.2.1, ()) }
def e3x : b2o.ok EF Tp 50 := i8.prove (c := b2o) EF (Z0.side Kbo) Kbo (H := fun _ _ _ _ => none) (n := 2) fun (a : CL D b2o.ash) (e : EL D b2o.es) (hp : b2o.holds a e) =>
 have hl : a.1.length <= 65536 := hp
 brL fun _ : a.1.length <= d4 =>
 bq (decide (65536 < ((a.1.length : Nat) : Int))) (fun h => (by have := A6 h; omega : some ((Dig.zero, (5 : Int), ()), (e.1.1, ()), e.2.1, e.2.2.1, ()) = some (b2o.post a e)))
 (fun _ => bq (!(a0f (E := D) .dig .str e.2.1 (a4d a.1)).isSome) (fun h => (by simp only [b2o, bkS, bkM, h, B5] : some ((a4d a.1, (0 : Int), ()), (wrap .i64 (e.1.1 + 1), ()), j6 (E := D) .dig .str e.2.1 (a4d a.1) a.1, e.2.2.1, ()) = some (b2o.post a e)))
 (fun h => bq (!decide ((a0f (E := D) .dig .str e.2.1 (a4d a.1)).getD [] = a.1)) (fun h2 => (by simp only [b2o, bkS, bkM, h, h2, B5, B8] : some ((a4d a.1, (0 : Int), ()), (wrap .i64 (e.1.1 + 1), ()), e.2.1, j6 (E := D) .str .bool e.2.2.1 a.1 true, ()) = some (b2o.post a e)))
 (fun h2 => (by simp only [b2o, bkS, bkM, h, h2, B8] : some ((a4d a.1, (0 : Int), ()), (wrap .i64 (e.1.1 + 1), ()), e.2.1, e.2.2.1, ()) = some (b2o.post a e)))))
def c0j : i8 D := { ash := [.nm 0], es := BS, rsh := [.dat .bool], pes := BS, post := fun _ e => ((bif (a0f (E := D) .dig .str e.2.1 Dig.zero).isSome then true else decide (0 < ((e.2.2.1.length : Nat) : Int)), ()), e) }
def f2u : c0j.ok EF Tp 21 := i8.prove (c := c0j) EF Z0 K0 (H := fun _ _ _ _ => none) (n := 2) fun (a : CL D c0j.ash) (e : EL D c0j.es) (_ : c0j.holds a e) =>
 bq ((a0f (E := D) .dig .str e.2.1 Dig.zero).isSome) (fun h => (by simp only [c0j, h, B5]; rfl : some ((true, ()), (e.1.1, ()), e.2.1, e.2.2.1, ()) = some (c0j.post a e)))
 (fun h => (by simp only [c0j, h, B8]; rfl : some ((decide (0 < ((e.2.2.1.length : Nat) : Int)), ()), (e.1.1, ()), e.2.1, e.2.2.1, ()) = some (c0j.post a e)))
def c2h : i8 D := { ash := [], es := [], rsh := [.nm 0], pes := BS, post := fun _ _ => ((), ((0 : Int), ()), [], [], ()) }
def f2v : c2h.ok EF Tp 11 := i8.prove (c := c2h) EF Z0 K0 (H := fun _ _ _ _ => none) (n := 1) fun (a : CL D c2h.ash) (e : EL D c2h.es) (_ : c2h.holds a e) =>
 (rfl : some ((), ((0 : Int), ()), [], [], ()) = some (c2h.post a e))
def mb3 : j0 Tp 3 = 8 := by kernel_rfl
def d5g : j0 Tp 116 = 40 := by kernel_rfl
def c9j : j0 Tp 118 = 48 := by kernel_rfl
def mb5 : j0 Tp 5 = 1 := by kernel_rfl
def b5s (a : HL D [.st 0]) : HL D [.int] :=
 bif a0j a.1 != 0 then (0, ()) else (wrap .i64 (a.1.faults + 1), ())
def a7c : Con D := { ts := [.st 0], rt := [.int], ret := b5s }
def c5z : a7c.ok Tp 46 := Con.prove (c := a7c) EF Z0 K2 (H := H0) (n := 4) fun (a : HL D a7c.ts) (hp : a7c.holds a) =>
 br_ (fun h1 => a7c.lf a (ct h1 (rfl))) (fun h1 => a7c.lf a (cf h1 (rfl)))
def c3u (a : HL D [.st 0, .int]) : HL D [.bool] :=
 bif a0j a.1 == 0 then (bsF a.1.nodes a.2.1, ()) else (false, ())
def a7q : Con D := { ts := [.st 0, .int], rt := [.bool], ret := c3u }
def d2m : a7q.ok Tp 40 := Con.prove (c := a7q) EF Z0 K2 (H := H0) (n := 4) fun (a : HL D a7q.ts) (hp : a7q.holds a) =>
 br_ (fun h1 => a7q.lf a (ct h1 (rfl))) (fun h1 => a7q.lf a (cf h1 (rfl)))
def f2w (a : HL D [.sl .int]) : HL D [.sl .int] :=
 (a.1, ())
def b1x : Con D := { ts := [.sl .int], rt := [.sl .int], pre := some (fun a => a.1.length <= 1000000), ret := f2w }
def d2n : b1x.ok Tp 60 := Con.prove (c := b1x) EF Z0 K0 (H := H0) (n := 4) fun (a : HL D b1x.ts) (hp : b1x.holds a) =>
 Nl.mk (xs := a.1) (fun h1 => (by simp [b1x, f2w, *] : some ([], ()) = some (b1x.ret a))) (
 bN (Nat.ble ((0 + length a.1) * j0 Tp 3) d4) (by rw [mb3]; exact D3 (by have h : a.1.length <= 1000000 := hp; unfold d4; omega)) (
 b1x.lf a (rfl)))
def f2x (a : HL D [.sl (.st 1)]) : HL D [.sl (.st 1)] :=
 (a.1, ())
def b3v : Con D := { ts := [.sl (.st 1)], rt := [.sl (.st 1)], pre := some (fun a => a.1.length <= 1000000), ret := f2x }
def e3y : b3v.ok Tp 95 := Con.prove (c := b3v) EF Z0 K0 (H := H0) (n := 4) fun (a : HL D b3v.ts) (hp : b3v.holds a) =>
 Nl.mk (xs := a.1) (fun h1 => (by simp [b3v, f2x, *] : some ([], ()) = some (b3v.ret a))) (
 bN (Nat.ble ((0 + length a.1) * j0 Tp 116) d4) (by rw [d5g]; exact D3 (by have h : a.1.length <= 1000000 := hp; unfold d4; omega)) (
 b3v.lf a (rfl)))
def f2y (a : HL D [.sl (.st 2)]) : HL D [.sl (.st 2)] :=
 (a.1, ())
def b3w : Con D := { ts := [.sl (.st 2)], rt := [.sl (.st 2)], pre := some (fun a => a.1.length <= 1000000), ret := f2y }
def e3z : b3w.ok Tp 96 := Con.prove (c := b3w) EF Z0 K0 (H := H0) (n := 4) fun (a : HL D b3w.ts) (hp : b3w.holds a) =>
 Nl.mk (xs := a.1) (fun h1 => (by simp [b3w, f2y, *] : some ([], ()) = some (b3w.ret a))) (
 bN (Nat.ble ((0 + length a.1) * j0 Tp 118) d4) (by rw [c9j]; exact D3 (by have h : a.1.length <= 1000000 := hp; unfold d4; omega)) (
 b3w.lf a (rfl)))
def f2z (a : HL D [.sl .u8]) : HL D [.sl .u8] :=
 (a.1, ())
def b3x : Con D := { ts := [.sl .u8], rt := [.sl .u8], pre := some (fun a => a.1.length <= 1000000), ret := f2z }
def e4a : b3x.ok Tp 306 := Con.prove (c := b3x) EF Z0 K0 (H := H0) (n := 4) fun (a : HL D b3x.ts) (hp : b3x.holds a) =>
 Nl.mk (xs := a.1) (fun h1 => (by simp [b3x, f2z, *] : some ([], ()) = some (b3x.ret a))) (
 bN (Nat.ble ((0 + length a.1) * j0 Tp 5) d4) (by rw [mb5]; exact D3 (by have h : a.1.length <= 1000000 := hp; unfold d4; omega)) (
 b3x.lf a (rfl)))
def c6a (a : HL D [.int, .int]) : HL D [.int] :=
 bif decide (a.2.1 <= 0) then
 ((0 : Int), ())
 else bif decide (Int.tmod a.1 a.2.1 < 0) then
 (wrap IntKind.i64 (Int.tmod a.1 a.2.1 + a.2.1), ())
 else (Int.tmod a.1 a.2.1, ())
def a2r : Con D := { ts := [.int, .int], rt := [.int], ret := c6a }
def c9k : a2r.ok Tp 9 := Con.prove (c := a2r) EF Z0 K0 (H := H0) (n := 4) fun (a : HL D a2r.ts) (hp : a2r.holds a) =>
 br_ (fun h1 => a2r.lf a (ct h1 (rfl))) (fun h1 => bN (a.2.1 != 0) (by have h := A9 h1; simp; intro e; exact h (Int.le_of_eq e)) (
 br_ (fun h2 => a2r.lf a (cf h1 (ct h2 (rfl)))) (fun h2 => a2r.lf a (cf h1 (cf h2 (rfl))))))
def a0k (c : b8) : d7 := ⟨7, c.node, 1, 1, 0, 0, Dig.zero, [], ⟨0, [], 0, []⟩, 0, 0, c, [], [], 0, 0, [], [], []⟩
def e9m (a : HL D [.st 3]) : HL D [.st 7] :=
 (a0k a.1, ())
def a8h : Con D := { ts := [.st 3], rt := [.st 7], ret := e9m }
def c9l : a8h.ok Tp 13 := Con.prove (c := a8h) EF Z0 K0 (H := H0) (n := 4) fun (a : HL D a8h.ts) (hp : a8h.holds a) =>
 a8h.lf a (rfl)
def d8p (b : UInt8) : Dig := a5q Dig.zero 0 b
def a8z (b c : UInt8) : Dig := a5q (a5q Dig.zero 0 b) 1 c
def m6 (n v : Int) (b : UInt8) : b8 := ⟨n, v, 0, [⟨0, d8p 9⟩], [], [⟨1, a8z b 1, 0⟩]⟩
def f6j (a : HL D [.int, .int, .u8]) : HL D [.st 3] :=
 (m6 a.1 a.2.1 a.2.2.1, ())
def b2p : Con D := { ts := [.int, .int, .u8], rt := [.st 3], ret := f6j }
def d5h : b2p.ok Tp 14 := Con.prove (c := b2p) EF Z0 K0 (H := H0) (n := 4) fun (a : HL D b2p.ts) (hp : b2p.holds a) =>
 b2p.lf a (rfl)
def c0k (a : HL D [.int, .int, .int]) : HL D [.bool] :=
 bif decide (a.2.1 <= a.1) then
 (decide (a.1 <= a.2.2.1), ())
 else (false, ())
def a0d : Con D := { ts := [.int, .int, .int], rt := [.bool], ret := c0k }
def c3v : a0d.ok Tp 152 := Con.prove (c := a0d) EF Z0 K0 (H := H0) (n := 4) fun (a : HL D a0d.ts) (hp : a0d.holds a) =>
 br_ (fun h1 => a0d.lf a (ct h1 (rfl))) (fun h1 => a0d.lf a (cf h1 (rfl)))
def g3q (a : HL D [.sl .u8, .sl .u8]) : HL D [.bool] :=
 (decide (a.1 = a.2.1), ())
def c3w : Con D := { ts := [.sl .u8, .sl .u8], rt := [.bool], ret := g3q }
def f6k : c3w.ok Tp 156 := Con.prove (c := c3w) EF Z0 K0 (H := H0) (n := 4) fun (a : HL D c3w.ts) (hp : c3w.holds a) =>
 c3w.lf a (rfl)
def eqB {α : Type} [DecidableEq α] (a b : List α) : Bool := decide (a = b)
section
variable {α : Type} [DecidableEq α] {xs ys : List α} {d : α} {i : Nat}
def eqN (h : ((xs.length : Int) != (ys.length : Int)) = true) : eqB xs ys = false := by
 unfold eqB
 rw [Q4]
 rintro rfl
 simp at h
omit [DecidableEq α] in
def b3y (h : ((xs.length : Int) != (ys.length : Int)) = false) : xs.length = ys.length := by
 have := A9 (p := ((xs.length : Int) ≠ (ys.length : Int))) (by simpa using h)
 omega
def a9z (h : xs.getD i d ≠ ys.getD i d) : eqB xs ys = false := by
 unfold eqB
 rw [Q4]
 rintro rfl
 exact h rfl
omit [DecidableEq α] in
def g7m (hi : i < xs.length) (hl : xs.length = ys.length) (h0 : xs.take i = ys.take i) (h : xs.getD i d = ys.getD i d) : xs.take (i + 1) = ys.take (i + 1) := by
 rw [B3, B3, B2 hi, B2 (by omega : i < ys.length)] at h
 simp only [O4] at h
 rw [S8, S8, h0, B2 hi, B2 (by omega : i < ys.length), h]
def b0a (hi : ¬ i < xs.length) (hl : xs.length = ys.length) (hI : i <= xs.length /\ xs.take i = ys.take i) : eqB xs ys = true := by
 unfold eqB
 rw [decide_eq_true_iff]
 have e : i = xs.length := by omega
 have := hI.2
 rwa [e, D1, hl, D1] at this
end
def a1u {α : Type} (xs ys : List α) (k : Nat) : LH D := ⟨Nat, [k], fun i => [.i .i64 (i : Nat)], fun i => i <= xs.length /\ xs.take i = ys.take i, fun i => xs.length - i, [], fun _ => [], [], fun _ => []⟩
def a4e {α : Type} [DecidableEq α] {xs ys : List α} {d : α} {i k : Nat} (hI : (a1u xs ys k).inv i) (hi : i < xs.length) (hm : xs.length <= d4) (hl : xs.length = ys.length) (h : xs.getD i d = ys.getD i d) : Rnd (a1u xs ys k) i [iv (wrap .i64 ((i : Int) + 1))] [] [] :=
 ⟨(i + 1 : Nat), by rw [n4 hi hm]; rfl, rfl, rfl, ⟨hi, g7m hi hl hI.2 h⟩, by show xs.length - (i + 1) < xs.length - i; omega⟩
def d5i {a b : Mark} : (!(a.seq == b.seq && (decide (a.dig = b.dig) && true))) = !decide (a = b) := by cases a; cases b; simp [Q8]
def d5j {a b : i6} : (!(a.seq == b.seq && (decide (a.dig = b.dig) && (a.view == b.view && true)))) = !decide (a = b) := by cases a; cases b; simp [Q8]
def g7n {x y : UInt8} (h : ((x.toNat : Int) != (y.toNat : Int)) = true) : x ≠ y := fun e => by rw [e] at h; simp at h
def g3r {x y : UInt8} (h : ((x.toNat : Int) != (y.toNat : Int)) = false) : x = y := W8.1 (Int.ofNat.inj (by simpa using h))
def nde {α : Type} [DecidableEq α] {a b : α} (h : (!decide (a = b)) = true) : a ≠ b := by simpa using h
def b3z {α : Type} [DecidableEq α] {a b : α} (h : (!decide (a = b)) = false) : a = b := by simpa using h
def b0b : Con D := { ts := [.sl (.st 1), .sl (.st 1)], rt := [.bool], ret := fun a => (eqB (α := Mark) a.1 a.2.1, ()) }
def f6l : b0b.ok Tp 84 := Con.prove (c := b0b) EF Z0 K0 (H := fun a f r => match f, r with | 84, 4 => some (.inv (a1u (α := Mark) a.1 a.2.1 13)) | _, _ => none) (n := 2) fun (a : HL D b0b.ts) (_ : b0b.holds a) =>
 brL fun h1 : a.1.length <= d4 => brL fun h2 : a.2.1.length <= d4 =>
 bq (((a.1.length : Nat) : Int) != ((a.2.1.length : Nat) : Int)) (fun h3 => (by rw [show b0b.ret a = (eqB (α := Mark) a.1 a.2.1, ()) from rfl, eqN (α := Mark) h3]; rfl : some (false, ()) = some (b0b.ret a)))
 (fun h3 => have hl := b3y (α := Mark) (xs := a.1) (ys := a.2.1) h3
 brL fun _ : a.1.length <= d4 =>
 And.intro (⟨(0 : Nat), rfl, rfl, rfl, ⟨C0 _, rfl⟩⟩ : Ent (a1u (α := Mark) a.1 a.2.1 13) [iv 0] [] [])
 fun (i : Nat) (hI : i <= a.1.length /\ a.1.take i = a.2.1.take i) =>
 bq (decide ((i : Int) < (a.1.length : Int))) (fun h6 => have hi : i < a.1.length := by have := A6 h6; omega
  bN (iX (i : Int) (a.1.length : Int)) (by simp; omega) (
  bN (iX (i : Int) (a.2.1.length : Int)) (by simp; omega) (
  bq (!((getD a.1 (Int.toNat (i : Int)) (Ty.dflt D (.st 1) : Mark)).seq == (getD a.2.1 (Int.toNat (i : Int)) (Ty.dflt D (.st 1) : Mark)).seq && (decide ((getD a.1 (Int.toNat (i : Int)) (Ty.dflt D (.st 1) : Mark)).dig = (getD a.2.1 (Int.toNat (i : Int)) (Ty.dflt D (.st 1) : Mark)).dig) && true))) (fun h7 =>
   (by rw [show b0b.ret a = (eqB (α := Mark) a.1 a.2.1, ()) from rfl, a9z (α := Mark) (i := i) (d := (Ty.dflt D (.st 1) : Mark)) (nde (α := Mark) (by rw [<- d5i]; exact h7))]; rfl : some (false, ()) = some (b0b.ret a)))
  (fun h7 => a4e (α := Mark) (xs := a.1) (ys := a.2.1) (k := 13) (d := (Ty.dflt D (.st 1) : Mark)) hI hi h1 hl (b3z (α := Mark) (by rw [<- d5i]; exact h7))))))
 (fun h6 => (by rw [show b0b.ret a = (eqB (α := Mark) a.1 a.2.1, ()) from rfl, b0a (α := Mark) (i := i) (by have := A9 h6; omega) hl hI]; rfl : some (true, ()) = some (b0b.ret a))))
def b0c : Con D := { ts := [.sl (.st 2), .sl (.st 2)], rt := [.bool], ret := fun a => (eqB (α := i6) a.1 a.2.1, ()) }
def f6m : b0c.ok Tp 85 := Con.prove (c := b0c) EF Z0 K0 (H := fun a f r => match f, r with | 85, 4 => some (.inv (a1u (α := i6) a.1 a.2.1 13)) | _, _ => none) (n := 2) fun (a : HL D b0c.ts) (_ : b0c.holds a) =>
 brL fun h1 : a.1.length <= d4 => brL fun h2 : a.2.1.length <= d4 =>
 bq (((a.1.length : Nat) : Int) != ((a.2.1.length : Nat) : Int)) (fun h3 => (by rw [show b0c.ret a = (eqB (α := i6) a.1 a.2.1, ()) from rfl, eqN (α := i6) h3]; rfl : some (false, ()) = some (b0c.ret a)))
 (fun h3 => have hl := b3y (α := i6) (xs := a.1) (ys := a.2.1) h3
 brL fun _ : a.1.length <= d4 =>
 And.intro (⟨(0 : Nat), rfl, rfl, rfl, ⟨C0 _, rfl⟩⟩ : Ent (a1u (α := i6) a.1 a.2.1 13) [iv 0] [] [])
 fun (i : Nat) (hI : i <= a.1.length /\ a.1.take i = a.2.1.take i) =>
 bq (decide ((i : Int) < (a.1.length : Int))) (fun h6 => have hi : i < a.1.length := by have := A6 h6; omega
  bN (iX (i : Int) (a.1.length : Int)) (by simp; omega) (
  bN (iX (i : Int) (a.2.1.length : Int)) (by simp; omega) (
  bq (!((getD a.1 (Int.toNat (i : Int)) (Ty.dflt D (.st 2) : i6)).seq == (getD a.2.1 (Int.toNat (i : Int)) (Ty.dflt D (.st 2) : i6)).seq && (decide ((getD a.1 (Int.toNat (i : Int)) (Ty.dflt D (.st 2) : i6)).dig = (getD a.2.1 (Int.toNat (i : Int)) (Ty.dflt D (.st 2) : i6)).dig) && ((getD a.1 (Int.toNat (i : Int)) (Ty.dflt D (.st 2) : i6)).view == (getD a.2.1 (Int.toNat (i : Int)) (Ty.dflt D (.st 2) : i6)).view && true)))) (fun h7 =>
   (by rw [show b0c.ret a = (eqB (α := i6) a.1 a.2.1, ()) from rfl, a9z (α := i6) (i := i) (d := (Ty.dflt D (.st 2) : i6)) (nde (α := i6) (by rw [<- d5j]; exact h7))]; rfl : some (false, ()) = some (b0c.ret a)))
  (fun h7 => a4e (α := i6) (xs := a.1) (ys := a.2.1) (k := 13) (d := (Ty.dflt D (.st 2) : i6)) hI hi h1 hl (b3z (α := i6) (by rw [<- d5j]; exact h7))))))
 (fun h6 => (by rw [show b0c.ret a = (eqB (α := i6) a.1 a.2.1, ()) from rfl, b0a (α := i6) (i := i) (by have := A9 h6; omega) hl hI]; rfl : some (true, ()) = some (b0c.ret a))))
def b0d : Con D := { ts := [.sl (.int), .sl (.int)], rt := [.bool], ret := fun a => (eqB (α := Int) a.1 a.2.1, ()) }
def f6n : b0d.ok Tp 157 := Con.prove (c := b0d) EF Z0 K0 (H := fun a f r => match f, r with | 157, 4 => some (.inv (a1u (α := Int) a.1 a.2.1 13)) | _, _ => none) (n := 2) fun (a : HL D b0d.ts) (_ : b0d.holds a) =>
 brL fun h1 : a.1.length <= d4 => brL fun h2 : a.2.1.length <= d4 =>
 bq (((a.1.length : Nat) : Int) != ((a.2.1.length : Nat) : Int)) (fun h3 => (by rw [show b0d.ret a = (eqB (α := Int) a.1 a.2.1, ()) from rfl, eqN (α := Int) h3]; rfl : some (false, ()) = some (b0d.ret a)))
 (fun h3 => have hl := b3y (α := Int) (xs := a.1) (ys := a.2.1) h3
 brL fun _ : a.1.length <= d4 =>
 And.intro (⟨(0 : Nat), rfl, rfl, rfl, ⟨C0 _, rfl⟩⟩ : Ent (a1u (α := Int) a.1 a.2.1 13) [iv 0] [] [])
 fun (i : Nat) (hI : i <= a.1.length /\ a.1.take i = a.2.1.take i) =>
 bq (decide ((i : Int) < (a.1.length : Int))) (fun h6 => have hi : i < a.1.length := by have := A6 h6; omega
  bN (iX (i : Int) (a.1.length : Int)) (by simp; omega) (
  bN (iX (i : Int) (a.2.1.length : Int)) (by simp; omega) (
  bq ((getD a.1 (Int.toNat (i : Int)) (Ty.dflt D (.int) : Int)) != (getD a.2.1 (Int.toNat (i : Int)) (Ty.dflt D (.int) : Int))) (fun h7 =>
   (by rw [show b0d.ret a = (eqB (α := Int) a.1 a.2.1, ()) from rfl, a9z (α := Int) (i := i) (d := (Ty.dflt D (.int) : Int)) (Y3.1 h7)]; rfl : some (false, ()) = some (b0d.ret a)))
  (fun h7 => a4e (α := Int) (xs := a.1) (ys := a.2.1) (k := 13) (d := (Ty.dflt D (.int) : Int)) hI hi h1 hl (by simpa using h7)))))
 (fun h6 => (by rw [show b0d.ret a = (eqB (α := Int) a.1 a.2.1, ()) from rfl, b0a (α := Int) (i := i) (by have := A9 h6; omega) hl hI]; rfl : some (true, ()) = some (b0d.ret a))))
def b0e : Con D := { ts := [.sl (.dig), .sl (.dig)], rt := [.bool], ret := fun a => (eqB (α := Dig) a.1 a.2.1, ()) }
def f6o : b0e.ok Tp 163 := Con.prove (c := b0e) EF Z0 K0 (H := fun a f r => match f, r with | 163, 4 => some (.inv (a1u (α := Dig) a.1 a.2.1 13)) | _, _ => none) (n := 2) fun (a : HL D b0e.ts) (_ : b0e.holds a) =>
 brL fun h1 : a.1.length <= d4 => brL fun h2 : a.2.1.length <= d4 =>
 bq (((a.1.length : Nat) : Int) != ((a.2.1.length : Nat) : Int)) (fun h3 => (by rw [show b0e.ret a = (eqB (α := Dig) a.1 a.2.1, ()) from rfl, eqN (α := Dig) h3]; rfl : some (false, ()) = some (b0e.ret a)))
 (fun h3 => have hl := b3y (α := Dig) (xs := a.1) (ys := a.2.1) h3
 brL fun _ : a.1.length <= d4 =>
 And.intro (⟨(0 : Nat), rfl, rfl, rfl, ⟨C0 _, rfl⟩⟩ : Ent (a1u (α := Dig) a.1 a.2.1 13) [iv 0] [] [])
 fun (i : Nat) (hI : i <= a.1.length /\ a.1.take i = a.2.1.take i) =>
 bq (decide ((i : Int) < (a.1.length : Int))) (fun h6 => have hi : i < a.1.length := by have := A6 h6; omega
  bN (iX (i : Int) (a.1.length : Int)) (by simp; omega) (
  bN (iX (i : Int) (a.2.1.length : Int)) (by simp; omega) (
  bq (!decide ((getD a.1 (Int.toNat (i : Int)) (Ty.dflt D (.dig) : Dig)) = (getD a.2.1 (Int.toNat (i : Int)) (Ty.dflt D (.dig) : Dig)))) (fun h7 =>
   (by rw [show b0e.ret a = (eqB (α := Dig) a.1 a.2.1, ()) from rfl, a9z (α := Dig) (i := i) (d := (Ty.dflt D (.dig) : Dig)) (nde h7)]; rfl : some (false, ()) = some (b0e.ret a)))
  (fun h7 => a4e (α := Dig) (xs := a.1) (ys := a.2.1) (k := 13) (d := (Ty.dflt D (.dig) : Dig)) hI hi h1 hl (b3z h7)))))
 (fun h6 => (by rw [show b0e.ret a = (eqB (α := Dig) a.1 a.2.1, ()) from rfl, b0a (α := Dig) (i := i) (by have := A9 h6; omega) hl hI]; rfl : some (true, ()) = some (b0e.ret a))))
def a5u : Con D := { ts := [.sl (.st 1), .sl (.st 1)], rt := [.bool], ret := fun a => (eqB (α := Mark) a.1 a.2.1, ()) }
def e9n : a5u.ok Tp 56 := Con.prove (c := a5u) EF Z0 K0 (H := fun a f r => match f, r with | 56, 4 => some (.inv (a1u (α := Mark) a.1 a.2.1 5)) | _, _ => none) (n := 2) fun (a : HL D a5u.ts) (_ : a5u.holds a) =>
 brL fun h1 : a.1.length <= d4 => brL fun h2 : a.2.1.length <= d4 =>
 bq (((a.1.length : Nat) : Int) != ((a.2.1.length : Nat) : Int)) (fun h3 => (by rw [show a5u.ret a = (eqB (α := Mark) a.1 a.2.1, ()) from rfl, eqN (α := Mark) h3]; rfl : some (false, ()) = some (a5u.ret a)))
 (fun h3 => have hl := b3y (α := Mark) (xs := a.1) (ys := a.2.1) h3
 And.intro (⟨(0 : Nat), rfl, rfl, rfl, ⟨C0 _, rfl⟩⟩ : Ent (a1u (α := Mark) a.1 a.2.1 5) [iv 0] [] [])
 fun (i : Nat) (hI : i <= a.1.length /\ a.1.take i = a.2.1.take i) =>
 brL fun _ : a.1.length <= d4 =>
 bq (decide ((i : Int) < (a.1.length : Int))) (fun h6 => have hi : i < a.1.length := by have := A6 h6; omega
  bN (iX (i : Int) (a.1.length : Int)) (by simp; omega) (
  bN (iX (i : Int) (a.2.1.length : Int)) (by simp; omega) (
  bq (!((getD a.1 (Int.toNat (i : Int)) (Ty.dflt D (.st 1) : Mark)).seq == (getD a.2.1 (Int.toNat (i : Int)) (Ty.dflt D (.st 1) : Mark)).seq && (decide ((getD a.1 (Int.toNat (i : Int)) (Ty.dflt D (.st 1) : Mark)).dig = (getD a.2.1 (Int.toNat (i : Int)) (Ty.dflt D (.st 1) : Mark)).dig) && true))) (fun h7 =>
   (by rw [show a5u.ret a = (eqB (α := Mark) a.1 a.2.1, ()) from rfl, a9z (α := Mark) (i := i) (d := (Ty.dflt D (.st 1) : Mark)) (nde (α := Mark) (by rw [<- d5i]; exact h7))]; rfl : some (false, ()) = some (a5u.ret a)))
  (fun h7 => a4e (α := Mark) (xs := a.1) (ys := a.2.1) (k := 5) (d := (Ty.dflt D (.st 1) : Mark)) hI hi h1 hl (b3z (α := Mark) (by rw [<- d5i]; exact h7))))))
 (fun h6 => (by rw [show a5u.ret a = (eqB (α := Mark) a.1 a.2.1, ()) from rfl, b0a (α := Mark) (i := i) (by have := A9 h6; omega) hl hI]; rfl : some (true, ()) = some (a5u.ret a))))
def a5v : Con D := { ts := [.sl (.st 2), .sl (.st 2)], rt := [.bool], ret := fun a => (eqB (α := i6) a.1 a.2.1, ()) }
def e9o : a5v.ok Tp 57 := Con.prove (c := a5v) EF Z0 K0 (H := fun a f r => match f, r with | 57, 4 => some (.inv (a1u (α := i6) a.1 a.2.1 5)) | _, _ => none) (n := 2) fun (a : HL D a5v.ts) (_ : a5v.holds a) =>
 brL fun h1 : a.1.length <= d4 => brL fun h2 : a.2.1.length <= d4 =>
 bq (((a.1.length : Nat) : Int) != ((a.2.1.length : Nat) : Int)) (fun h3 => (by rw [show a5v.ret a = (eqB (α := i6) a.1 a.2.1, ()) from rfl, eqN (α := i6) h3]; rfl : some (false, ()) = some (a5v.ret a)))
 (fun h3 => have hl := b3y (α := i6) (xs := a.1) (ys := a.2.1) h3
 And.intro (⟨(0 : Nat), rfl, rfl, rfl, ⟨C0 _, rfl⟩⟩ : Ent (a1u (α := i6) a.1 a.2.1 5) [iv 0] [] [])
 fun (i : Nat) (hI : i <= a.1.length /\ a.1.take i = a.2.1.take i) =>
 brL fun _ : a.1.length <= d4 =>
 bq (decide ((i : Int) < (a.1.length : Int))) (fun h6 => have hi : i < a.1.length := by have := A6 h6; omega
  bN (iX (i : Int) (a.1.length : Int)) (by simp; omega) (
  bN (iX (i : Int) (a.2.1.length : Int)) (by simp; omega) (
  bq (!((getD a.1 (Int.toNat (i : Int)) (Ty.dflt D (.st 2) : i6)).seq == (getD a.2.1 (Int.toNat (i : Int)) (Ty.dflt D (.st 2) : i6)).seq && (decide ((getD a.1 (Int.toNat (i : Int)) (Ty.dflt D (.st 2) : i6)).dig = (getD a.2.1 (Int.toNat (i : Int)) (Ty.dflt D (.st 2) : i6)).dig) && ((getD a.1 (Int.toNat (i : Int)) (Ty.dflt D (.st 2) : i6)).view == (getD a.2.1 (Int.toNat (i : Int)) (Ty.dflt D (.st 2) : i6)).view && true)))) (fun h7 =>
   (by rw [show a5v.ret a = (eqB (α := i6) a.1 a.2.1, ()) from rfl, a9z (α := i6) (i := i) (d := (Ty.dflt D (.st 2) : i6)) (nde (α := i6) (by rw [<- d5j]; exact h7))]; rfl : some (false, ()) = some (a5v.ret a)))
  (fun h7 => a4e (α := i6) (xs := a.1) (ys := a.2.1) (k := 5) (d := (Ty.dflt D (.st 2) : i6)) hI hi h1 hl (b3z (α := i6) (by rw [<- d5j]; exact h7))))))
 (fun h6 => (by rw [show a5v.ret a = (eqB (α := i6) a.1 a.2.1, ()) from rfl, b0a (α := i6) (i := i) (by have := A9 h6; omega) hl hI]; rfl : some (true, ()) = some (a5v.ret a))))
def a5w : Con D := { ts := [.sl (.int), .sl (.int)], rt := [.bool], ret := fun a => (eqB (α := Int) a.1 a.2.1, ()) }
def e9p : a5w.ok Tp 107 := Con.prove (c := a5w) EF Z0 K0 (H := fun a f r => match f, r with | 107, 4 => some (.inv (a1u (α := Int) a.1 a.2.1 5)) | _, _ => none) (n := 2) fun (a : HL D a5w.ts) (_ : a5w.holds a) =>
 brL fun h1 : a.1.length <= d4 => brL fun h2 : a.2.1.length <= d4 =>
 bq (((a.1.length : Nat) : Int) != ((a.2.1.length : Nat) : Int)) (fun h3 => (by rw [show a5w.ret a = (eqB (α := Int) a.1 a.2.1, ()) from rfl, eqN (α := Int) h3]; rfl : some (false, ()) = some (a5w.ret a)))
 (fun h3 => have hl := b3y (α := Int) (xs := a.1) (ys := a.2.1) h3
 And.intro (⟨(0 : Nat), rfl, rfl, rfl, ⟨C0 _, rfl⟩⟩ : Ent (a1u (α := Int) a.1 a.2.1 5) [iv 0] [] [])
 fun (i : Nat) (hI : i <= a.1.length /\ a.1.take i = a.2.1.take i) =>
 brL fun _ : a.1.length <= d4 =>
 bq (decide ((i : Int) < (a.1.length : Int))) (fun h6 => have hi : i < a.1.length := by have := A6 h6; omega
  bN (iX (i : Int) (a.1.length : Int)) (by simp; omega) (
  bN (iX (i : Int) (a.2.1.length : Int)) (by simp; omega) (
  bq ((getD a.1 (Int.toNat (i : Int)) (Ty.dflt D (.int) : Int)) != (getD a.2.1 (Int.toNat (i : Int)) (Ty.dflt D (.int) : Int))) (fun h7 =>
   (by rw [show a5w.ret a = (eqB (α := Int) a.1 a.2.1, ()) from rfl, a9z (α := Int) (i := i) (d := (Ty.dflt D (.int) : Int)) (Y3.1 h7)]; rfl : some (false, ()) = some (a5w.ret a)))
  (fun h7 => a4e (α := Int) (xs := a.1) (ys := a.2.1) (k := 5) (d := (Ty.dflt D (.int) : Int)) hI hi h1 hl (by simpa using h7)))))
 (fun h6 => (by rw [show a5w.ret a = (eqB (α := Int) a.1 a.2.1, ()) from rfl, b0a (α := Int) (i := i) (by have := A9 h6; omega) hl hI]; rfl : some (true, ()) = some (a5w.ret a))))
def a2m : Con D := { ts := [.sl (.u8), .sl (.u8)], rt := [.bool], ret := fun a => (eqB (α := UInt8) a.1 a.2.1, ()) }
def d5k : a2m.ok Tp 79 := Con.prove (c := a2m) EF Z0 K0 (H := fun a f r => match f, r with | 79, 4 => some (.inv (a1u (α := UInt8) a.1 a.2.1 5)) | _, _ => none) (n := 2) fun (a : HL D a2m.ts) (_ : a2m.holds a) =>
 brL fun h1 : a.1.length <= d4 => brL fun h2 : a.2.1.length <= d4 =>
 bq (((a.1.length : Nat) : Int) != ((a.2.1.length : Nat) : Int)) (fun h3 => (by rw [show a2m.ret a = (eqB (α := UInt8) a.1 a.2.1, ()) from rfl, eqN (α := UInt8) h3]; rfl : some (false, ()) = some (a2m.ret a)))
 (fun h3 => have hl := b3y (α := UInt8) (xs := a.1) (ys := a.2.1) h3
 And.intro (⟨(0 : Nat), rfl, rfl, rfl, ⟨C0 _, rfl⟩⟩ : Ent (a1u (α := UInt8) a.1 a.2.1 5) [iv 0] [] [])
 fun (i : Nat) (hI : i <= a.1.length /\ a.1.take i = a.2.1.take i) =>
 brL fun _ : a.1.length <= d4 =>
 bq (decide ((i : Int) < (a.1.length : Int))) (fun h6 => have hi : i < a.1.length := by have := A6 h6; omega
  bN (iX (i : Int) (a.1.length : Int)) (by simp; omega) (
  bN (iX (i : Int) (a.2.1.length : Int)) (by simp; omega) (
  bq (((getD a.1 (Int.toNat (i : Int)) (Ty.dflt D (.u8) : UInt8)).toNat : Int) != ((getD a.2.1 (Int.toNat (i : Int)) (Ty.dflt D (.u8) : UInt8)).toNat : Int)) (fun h7 =>
   (by rw [show a2m.ret a = (eqB (α := UInt8) a.1 a.2.1, ()) from rfl, a9z (α := UInt8) (i := i) (d := (Ty.dflt D (.u8) : UInt8)) (g7n h7)]; rfl : some (false, ()) = some (a2m.ret a)))
  (fun h7 => a4e (α := UInt8) (xs := a.1) (ys := a.2.1) (k := 5) (d := (Ty.dflt D (.u8) : UInt8)) hI hi h1 hl (g3r h7)))))
 (fun h6 => (by rw [show a2m.ret a = (eqB (α := UInt8) a.1 a.2.1, ()) from rfl, b0a (α := UInt8) (i := i) (by have := A9 h6; omega) hl hI]; rfl : some (true, ()) = some (a2m.ret a))))
abbrev Γe := i5 (i5 (i5 (i5 (i5 (i5 (i5 (i5 (i5 noC 84 b0b) 85 b0c) 157 b0d) 163 b0e) 56 a5u) 57 a5v) 107 a5w) 79 a2m) 156 c3w
def Ke : n3 EF Tp Γe noO := ((((((((K0.c f6l).c f6m).c f6n).c f6o).c e9n).c e9o).c e9p).c d5k).c f6k
def Ze : ZF Tp D := Z0.side Ke
def dq {α : Type} [DecidableEq α] (a b : α) : Bool := decide (a = b)
abbrev bqL (a b : List UInt8) : Bool := decide (a = b)
def g7o {x y : p7} (h : (bif !bqL x.data y.data then true else !eqB x.next y.next) = true) : dq x y = false := by
 rw [dq, Q4]; rintro rfl; simp [eqB] at h
def g7p {x y : p7} (h : (bif !bqL x.data y.data then true else !eqB x.next y.next) = false) : decide ([x.client, x.stamp, x.group, x.epoch, x.kind, x.block, x.old, x.nw] = [y.client, y.stamp, y.group, y.epoch, y.kind, y.block, y.old, y.nw]) = dq x y := by
 have h1 : x.data = y.data := by by_cases e : x.data = y.data; exact e; simp [e] at h
 have h2 : x.next = y.next := by by_cases e : x.next = y.next; exact e; simp [e, h1, eqB] at h
 rw [dq, V4]
 cases x; cases y
 simp only [p7.mk.injEq, K7] at *
 simp [h1, h2]
def c6b : Con D := { ts := [.st 4, .st 4], rt := [.bool], ret := fun a => (dq (α := p7) a.1 a.2.1, ()) }
def g3s : c6b.ok Tp 204 := Con.prove (c := c6b) EF Ze Ke (H := H0) (n := 2) fun (a : HL D c6b.ts) (_ : c6b.holds a) =>
 bq (bif !bqL a.1.data a.2.1.data then true else !eqB (α := Int) a.1.next a.2.1.next) (fun h => (by rw [show c6b.ret a = (dq (α := p7) a.1 a.2.1, ()) from rfl, g7o h]; rfl : some (false, ()) = some (c6b.ret a)))
 (fun h => (by rw [show c6b.ret a = (dq (α := p7) a.1 a.2.1, ()) from rfl, <- g7p h]; rfl : some (decide ([a.1.client, a.1.stamp, a.1.group, a.1.epoch, a.1.kind, a.1.block, a.1.old, a.1.nw] = [a.2.1.client, a.2.1.stamp, a.2.1.group, a.2.1.epoch, a.2.1.kind, a.2.1.block, a.2.1.old, a.2.1.nw]), ()) = some (c6b.ret a)))
def a4t : Con D := { ts := [.st 4, .st 4], rt := [.bool], ret := fun a => (dq (α := p7) a.1 a.2.1, ()) }
def f6p (x y : p7) : (bif bif bif bif bif bif bif bif bif x.client == y.client then x.stamp == y.stamp else false then x.group == y.group else false then x.epoch == y.epoch else false then x.kind == y.kind else false then x.block == y.block else false then eqB x.data y.data else false then x.old == y.old else false then x.nw == y.nw else false then eqB x.next y.next else false) = dq x y := by
 unfold dq eqB
 cases x; cases y
 simp only [p7.mk.injEq, O9, Z8, Q8, X6]
def e4b : a4t.ok Tp 187 := Con.prove (c := a4t) EF Ze Ke (H := H0) (n := 2) fun (a : HL D a4t.ts) (_ : a4t.holds a) =>
 (congrArg (fun b => some (b, ())) (f6p a.1 a.2.1) : some (bif bif bif bif bif bif bif bif bif a.1.client == a.2.1.client then a.1.stamp == a.2.1.stamp else false then a.1.group == a.2.1.group else false then a.1.epoch == a.2.1.epoch else false then a.1.kind == a.2.1.kind else false then a.1.block == a.2.1.block else false then eqB (α := UInt8) a.1.data a.2.1.data else false then a.1.old == a.2.1.old else false then a.1.nw == a.2.1.nw else false then eqB (α := Int) a.1.next a.2.1.next else false, ()) = some (dq (α := p7) a.1 a.2.1, ()))
def e4c (x y : b8) : (bif bif bif bif bif x.node == y.node then x.view == y.view else false then x.low == y.low else false then eqB x.mz y.mz else false then eqB x.p y.p else false then eqB x.q y.q else false) = dq x y := by
 unfold dq eqB
 cases x; cases y
 simp only [b8.mk.injEq, O9, Z8, Q8, X6]
def a3r : Con D := { ts := [.st 3, .st 3], rt := [.bool], ret := fun a => (dq (α := b8) a.1 a.2.1, ()) }
def e4d : a3r.ok Tp 161 := Con.prove (c := a3r) EF Ze Ke (H := H0) (n := 2) fun (a : HL D a3r.ts) (_ : a3r.holds a) =>
 (congrArg (fun b => some (b, ())) (e4c a.1 a.2.1) : some (bif bif bif bif bif a.1.node == a.2.1.node then a.1.view == a.2.1.view else false then a.1.low == a.2.1.low else false then eqB (α := Mark) a.1.mz a.2.1.mz else false then eqB (α := i6) a.1.p a.2.1.p else false then eqB (α := i6) a.1.q a.2.1.q else false, ()) = some (dq (α := b8) a.1 a.2.1, ()))
def b8f : a3r.ok Tp 43 := Con.prove (c := a3r) EF Ze Ke (H := H0) (n := 2) fun (a : HL D a3r.ts) (_ : a3r.holds a) =>
 (congrArg (fun b => some (b, ())) (e4c a.1 a.2.1) : some (bif bif bif bif bif a.1.node == a.2.1.node then a.1.view == a.2.1.view else false then a.1.low == a.2.1.low else false then eqB (α := Mark) a.1.mz a.2.1.mz else false then eqB (α := i6) a.1.p a.2.1.p else false then eqB (α := i6) a.1.q a.2.1.q else false, ()) = some (dq (α := b8) a.1 a.2.1, ()))
def b1c : a3r.ok Tp 23 := Con.prove (c := a3r) EF Ze Ke (H := H0) (n := 2) fun (a : HL D a3r.ts) (_ : a3r.holds a) =>
 (congrArg (fun b => some (b, ())) (e4c a.1 a.2.1) : some (bif bif bif bif bif a.1.node == a.2.1.node then a.1.view == a.2.1.view else false then a.1.low == a.2.1.low else false then eqB (α := Mark) a.1.mz a.2.1.mz else false then eqB (α := i6) a.1.p a.2.1.p else false then eqB (α := i6) a.1.q a.2.1.q else false, ()) = some (dq (α := b8) a.1 a.2.1, ()))
abbrev Γf := i5 (i5 (i5 (i5 (i5 Γe 204 c6b) 187 a4t) 161 a3r) 43 a3r) 23 a3r
def Kf : n3 EF Tp Γf noO := ((((Ke.c g3s).c e4b).c e4d).c b8f).c b1c
def Zf : ZF Tp D := Z0.side Kf
def b7o : Con D := { ts := [.sl (.st 4), .sl (.st 4)], rt := [.bool], ret := fun a => (eqB (α := p7) a.1 a.2.1, ()) }
def f3a : b7o.ok Tp 159 := Con.prove (c := b7o) EF Zf Kf (H := fun a f r => match f, r with | 203, 4 => some (.inv (a1u (α := p7) a.1 a.2.1 17)) | _, _ => none) (n := 2) fun (a : HL D b7o.ts) (_ : b7o.holds a) =>
 brL fun h1 : a.1.length <= d4 => brL fun h2 : a.2.1.length <= d4 =>
 bq (((a.1.length : Nat) : Int) != ((a.2.1.length : Nat) : Int)) (fun h3 => (by rw [show b7o.ret a = (eqB (α := p7) a.1 a.2.1, ()) from rfl, eqN (α := p7) h3]; rfl : some (false, ()) = some (b7o.ret a)))
 (fun h3 => have hl := b3y (α := p7) (xs := a.1) (ys := a.2.1) h3
 brL fun _ : a.1.length <= d4 =>
 And.intro (⟨(0 : Nat), rfl, rfl, rfl, ⟨C0 _, rfl⟩⟩ : Ent (a1u (α := p7) a.1 a.2.1 17) [iv 0] [] [])
 fun (i : Nat) (hI : i <= a.1.length /\ a.1.take i = a.2.1.take i) =>
 bq (decide ((i : Int) < (a.1.length : Int))) (fun h6 => have hi : i < a.1.length := by have := A6 h6; omega
  bN (iX (i : Int) (a.1.length : Int)) (by simp; omega) (
  bN (iX (i : Int) (a.2.1.length : Int)) (by simp; omega) (
  bq (!dq (α := p7) (getD a.1 (Int.toNat (i : Int)) (Ty.dflt D (.st 4) : p7)) (getD a.2.1 (Int.toNat (i : Int)) (Ty.dflt D (.st 4) : p7))) (fun h7 =>
   (by rw [show b7o.ret a = (eqB (α := p7) a.1 a.2.1, ()) from rfl, a9z (α := p7) (i := i) (d := (Ty.dflt D (.st 4) : p7)) (nde h7)]; rfl : some (false, ()) = some (b7o.ret a)))
  (fun h7 => a4e (α := p7) (xs := a.1) (ys := a.2.1) (k := 17) (d := (Ty.dflt D (.st 4) : p7)) hI hi h1 hl (b3z h7)))))
 (fun h6 => (by rw [show b7o.ret a = (eqB (α := p7) a.1 a.2.1, ()) from rfl, b0a (α := p7) (i := i) (by have := A9 h6; omega) hl hI]; rfl : some (true, ()) = some (b7o.ret a))))
def c0l : Con D := { ts := [.sl (.st 4), .sl (.st 4)], rt := [.bool], ret := fun a => (eqB (α := p7) a.1 a.2.1, ()) }
def g3t : c0l.ok Tp 148 := Con.prove (c := c0l) EF Zf Kf (H := fun a f r => match f, r with | 148, 4 => some (.inv (a1u (α := p7) a.1 a.2.1 5)) | _, _ => none) (n := 2) fun (a : HL D c0l.ts) (_ : c0l.holds a) =>
 brL fun h1 : a.1.length <= d4 => brL fun h2 : a.2.1.length <= d4 =>
 bq (((a.1.length : Nat) : Int) != ((a.2.1.length : Nat) : Int)) (fun h3 => (by rw [show c0l.ret a = (eqB (α := p7) a.1 a.2.1, ()) from rfl, eqN (α := p7) h3]; rfl : some (false, ()) = some (c0l.ret a)))
 (fun h3 => have hl := b3y (α := p7) (xs := a.1) (ys := a.2.1) h3
 And.intro (⟨(0 : Nat), rfl, rfl, rfl, ⟨C0 _, rfl⟩⟩ : Ent (a1u (α := p7) a.1 a.2.1 5) [iv 0] [] [])
 fun (i : Nat) (hI : i <= a.1.length /\ a.1.take i = a.2.1.take i) =>
 brL fun _ : a.1.length <= d4 =>
 bq (decide ((i : Int) < (a.1.length : Int))) (fun h6 => have hi : i < a.1.length := by have := A6 h6; omega
  bN (iX (i : Int) (a.1.length : Int)) (by simp; omega) (
  bN (iX (i : Int) (a.2.1.length : Int)) (by simp; omega) (
  bq (!dq (α := p7) (getD a.1 (Int.toNat (i : Int)) (Ty.dflt D (.st 4) : p7)) (getD a.2.1 (Int.toNat (i : Int)) (Ty.dflt D (.st 4) : p7))) (fun h7 =>
   (by rw [show c0l.ret a = (eqB (α := p7) a.1 a.2.1, ()) from rfl, a9z (α := p7) (i := i) (d := (Ty.dflt D (.st 4) : p7)) (nde h7)]; rfl : some (false, ()) = some (c0l.ret a)))
  (fun h7 => a4e (α := p7) (xs := a.1) (ys := a.2.1) (k := 5) (d := (Ty.dflt D (.st 4) : p7)) hI hi h1 hl (b3z h7)))))
 (fun h6 => (by rw [show c0l.ret a = (eqB (α := p7) a.1 a.2.1, ()) from rfl, b0a (α := p7) (i := i) (by have := A9 h6; omega) hl hI]; rfl : some (true, ()) = some (c0l.ret a))))
def g3u (x y : a0i) : (bif bif x.seq == y.seq then decide (x.dig = y.dig) else false then eqB x.batch y.batch else false) = dq x y := by
 unfold dq eqB
 cases x; cases y
 simp only [a0i.mk.injEq, O9, Z8, Q8, X6]
def e4e : Con D := { ts := [.st 6, .st 6], rt := [.bool], ret := fun a => (dq (α := a0i) a.1 a.2.1, ()) }
def Kf1 : n3 EF Tp (i5 Γf 159 b7o) noO := Kf.c f3a
def g3v : e4e.ok Tp 158 := Con.prove (c := e4e) EF (Z0.side Kf1) Kf1 (H := H0) (n := 2) fun (a : HL D e4e.ts) (_ : e4e.holds a) =>
 (congrArg (fun b => some (b, ())) (g3u a.1 a.2.1) : some (bif bif a.1.seq == a.2.1.seq then decide (a.1.dig = a.2.1.dig) else false then eqB (α := p7) a.1.batch a.2.1.batch else false, ()) = some (dq (α := a0i) a.1 a.2.1, ()))
abbrev Γg := i5 (i5 (i5 Γf 159 b7o) 148 c0l) 158 e4e
def Kg : n3 EF Tp Γg noO := ((Kf.c f3a).c g3t).c g3v
def Zg : ZF Tp D := Z0.side Kg
def n1 (x y : d7) : Bool := bif bif bif bif bif bif bif bif bif bif x.kind == y.kind then x.sq == y.sq else false then x.group == y.group else false then x.epoch == y.epoch else false then x.view == y.view else false then x.seq == y.seq else false then decide (x.dig = y.dig) else false then x.stamp == y.stamp else false then x.node == y.node else false then x.level == y.level else false then x.place == y.place else false
def n2 (x y : a0n) : Bool := bif bif bif x.err == y.err then bqL x.data y.data else false then x.epoch == y.epoch else false then eqB x.nodes y.nodes else false
def nA (x y : d7) (z : Bool) : Bool := bif bif bif bif bif bif n1 x y then n2 x.answer y.answer else false then z else false then dq x.change y.change else false then eqB x.digests y.digests else false then bqL x.data y.data else false then eqB x.nodes y.nodes else false
def e4f (x y : d7) : nA x y false = false := by
 unfold nA; simp
def e9q {x y : d7} (h1 : x.batch = y.batch) (h2 : x.changes = y.changes) (h3 : x.picks = y.picks) : nA x y true = dq x y := by
 unfold nA n1 n2 dq eqB
 obtain ⟨_, _, _, _, _, _, _, _, ⟨_, _, _, _⟩, _, _, _, _, _, _, _, _, _, _⟩ := x
 obtain ⟨_, _, _, _, _, _, _, _, ⟨_, _, _, _⟩, _, _, _, _, _, _, _, _, _, _⟩ := y
 simp only [] at h1 h2 h3
 subst h1 h2 h3
 rw [J9]
 simp only [O9, A7, J4, C6, d7.mk.injEq, a0n.mk.injEq, Z9, M0]
 constructor
 ·rintro ⟨⟨⟨⟨⟨⟨⟨⟨⟨⟨⟨⟨⟨⟨⟨a1, a2⟩, a3⟩, a4⟩, a5⟩, a6⟩, a7⟩, a8⟩, a9⟩, a10⟩, a11⟩, ⟨⟨b1, b2⟩, b3⟩, b4⟩, a12⟩, a13⟩, a14⟩, a15⟩; exact ⟨a1, a2, a3, a4, a5, a6, a7, ⟨b1, b2, b3, b4⟩, a8, a9, a12, a10, a11, a13, a14, a15⟩
 ·rintro ⟨a1, a2, a3, a4, a5, a6, a7, ⟨b1, b2, b3, b4⟩, a8, a9, a12, a10, a11, a13, a14, a15⟩; exact ⟨⟨⟨⟨⟨⟨⟨⟨⟨⟨⟨⟨⟨⟨⟨a1, a2⟩, a3⟩, a4⟩, a5⟩, a6⟩, a7⟩, a8⟩, a9⟩, a10⟩, a11⟩, ⟨⟨b1, b2⟩, b3⟩, b4⟩, a12⟩, a13⟩, a14⟩, a15⟩
def c6c : Con D := { ts := [.st 7, .st 7], rt := [.bool], ret := fun a => (dq (α := d7) a.1 a.2.1, ()) }
def c9m {x y : d7} (h : x ≠ y) : some (nA x y false, ()) = some (dq x y, ()) := by
 rw [e4f, dq, E5 h]
abbrev nsH (a : HL D c6c.ts) : Nat -> Nat -> Option (Hint D) := fun f r => match f, r with
 | 160, 4 => some (.inv (a1u (α := b8) a.1.changes a.2.1.changes 17))
 | 162, 4 => some (.inv (a1u (α := a0i) a.1.picks a.2.1.picks 17))
 | _, _ => none
def c0m {α : Type} [DecidableEq α] {xs ys : List α} (h : eqB xs ys = false) : xs ≠ ys := by unfold eqB at h; simpa using h
def d2o {α : Type} [DecidableEq α] {xs ys : List α} (h : eqB xs ys = true) : xs = ys := by unfold eqB at h; simpa using h
def e4g : c6c.ok Tp 117 := Con.prove (c := c6c) EF Zg Kg (H := nsH) (n := 2) fun (a : HL D c6c.ts) (_ : c6c.holds a) =>
 b1n (bq (eqB (α := p7) a.1.batch a.2.1.batch) (fun h1 =>
 brL fun m1 : a.1.changes.length <= d4 => brL fun m2 : a.2.1.changes.length <= d4 =>
 bq (((a.1.changes.length : Nat) : Int) != ((a.2.1.changes.length : Nat) : Int)) (fun h3 => (c9m fun e => c0m (eqN h3) (congrArg d7.changes e) : some (nA a.1 a.2.1 false, ()) = some (dq (α := d7) a.1 a.2.1, ())))
 (fun h3 => have hl := b3y (α := b8) (xs := a.1.changes) (ys := a.2.1.changes) h3
 brL fun _ : a.1.changes.length <= d4 =>
 And.intro (⟨(0 : Nat), rfl, rfl, rfl, ⟨C0 _, rfl⟩⟩ : Ent (a1u (α := b8) a.1.changes a.2.1.changes 17) [iv 0] [] [])
 fun (i : Nat) (hI : i <= a.1.changes.length /\ a.1.changes.take i = a.2.1.changes.take i) =>
 bq (decide ((i : Int) < (a.1.changes.length : Int))) (fun h6 => have hi : i < a.1.changes.length := by have := A6 h6; omega
  bN (iX (i : Int) (a.1.changes.length : Int)) (by simp; omega) (
  bN (iX (i : Int) (a.2.1.changes.length : Int)) (by simp; omega) (
  bq (!dq (α := b8) (a.1.changes.getD (Int.toNat (i : Int)) (Ty.dflt D (.st 3) : b8)) (a.2.1.changes.getD (Int.toNat (i : Int)) (Ty.dflt D (.st 3) : b8)))
  (fun h7 => (c9m fun e => c0m (a9z (α := b8) (i := i) (d := (Ty.dflt D (.st 3) : b8)) (nde h7)) (congrArg d7.changes e) : some (nA a.1 a.2.1 false, ()) = some (dq (α := d7) a.1 a.2.1, ())))
  (fun h7 => a4e (α := b8) (xs := a.1.changes) (ys := a.2.1.changes) (k := 17) (d := (Ty.dflt D (.st 3) : b8)) hI hi m1 hl (b3z h7)))))
 (fun h6 => have g1 : a.1.changes = a.2.1.changes := d2o (b0a (α := b8) (i := i) (by have := A9 h6; omega) hl hI)
 brL fun m1 : a.1.picks.length <= d4 => brL fun m2 : a.2.1.picks.length <= d4 =>
 bq (((a.1.picks.length : Nat) : Int) != ((a.2.1.picks.length : Nat) : Int)) (fun h3 => (c9m fun e => c0m (eqN h3) (congrArg d7.picks e) : some (nA a.1 a.2.1 false, ()) = some (dq (α := d7) a.1 a.2.1, ())))
 (fun h3 => have hl := b3y (α := a0i) (xs := a.1.picks) (ys := a.2.1.picks) h3
 brL fun _ : a.1.picks.length <= d4 =>
 And.intro (⟨(0 : Nat), rfl, rfl, rfl, ⟨C0 _, rfl⟩⟩ : Ent (a1u (α := a0i) a.1.picks a.2.1.picks 17) [iv 0] [] [])
 fun (i : Nat) (hI : i <= a.1.picks.length /\ a.1.picks.take i = a.2.1.picks.take i) =>
 bq (decide ((i : Int) < (a.1.picks.length : Int))) (fun h6 => have hi : i < a.1.picks.length := by have := A6 h6; omega
  bN (iX (i : Int) (a.1.picks.length : Int)) (by simp; omega) (
  bN (iX (i : Int) (a.2.1.picks.length : Int)) (by simp; omega) (
  bq (!dq (α := a0i) (a.1.picks.getD (Int.toNat (i : Int)) (Ty.dflt D (.st 6) : a0i)) (a.2.1.picks.getD (Int.toNat (i : Int)) (Ty.dflt D (.st 6) : a0i)))
  (fun h7 => (c9m fun e => c0m (a9z (α := a0i) (i := i) (d := (Ty.dflt D (.st 6) : a0i)) (nde h7)) (congrArg d7.picks e) : some (nA a.1 a.2.1 false, ()) = some (dq (α := d7) a.1 a.2.1, ())))
  (fun h7 => a4e (α := a0i) (xs := a.1.picks) (ys := a.2.1.picks) (k := 17) (d := (Ty.dflt D (.st 6) : a0i)) hI hi m1 hl (b3z h7)))))
 (fun h6 => have g2 : a.1.picks = a.2.1.picks := d2o (b0a (α := a0i) (i := i) (by have := A9 h6; omega) hl hI)
  (congrArg (fun b => some (b, ())) (e9q (d2o h1) g1 g2) : some (nA a.1 a.2.1 true, ()) = some (dq (α := d7) a.1 a.2.1, ())))))))
 (fun h1 => (c9m fun e => c0m h1 (congrArg d7.batch e) : some (nA a.1 a.2.1 false, ()) = some (dq (α := d7) a.1 a.2.1, ()))))
def slB (x y : d7) : Bool := eqB x.changes y.changes && (eqB x.picks y.picks && (eqB x.digests y.digests && (eqB x.batch y.batch && (eqB x.data y.data && eqB x.nodes y.nodes))))
def d8q : Con D := { ts := [.st 7, .st 7], rt := [.bool], ret := fun a => (slB a.1 a.2.1, ()) }
abbrev slH (a : HL D c6c.ts) : Nat -> Nat -> Option (Hint D) := fun f r => match f, r with
 | 108, 4 => some (.inv (a1u (α := b8) a.1.changes a.2.1.changes 5))
 | 108, 9 => some (.inv (a1u (α := a0i) a.1.picks a.2.1.picks 6))
 | 108, 15 => some (.inv (a1u (α := Dig) a.1.digests a.2.1.digests 9))
 | _, _ => none
def d5l {x y : d7} (h : slB x y = false) : some (false, ()) = some (slB x y, ()) := by rw [h]
def f3b {x y : a0i} : (bif bif x.seq != y.seq then true else !decide (x.dig = y.dig) then true else !eqB x.batch y.batch) = !dq x y := by
 unfold dq eqB
 cases x; cases y
 simp only [a0i.mk.injEq]
 rw [J9]
 simp only [Y1, P2, Y3, ne_eq, K4, Q4]
 constructor
 ·rintro ((h | h) | h) ⟨h1, h2, h3⟩ <;> first | exact h h1 | exact h h2 | exact h h3
 ·intro h; refine Classical.byContradiction fun k => h ?_
  simp only [not_or, Decidable.not_not] at k; exact ⟨k.1.1, k.1.2, k.2⟩
def g3w {x y : d7} (h : (bif bif ((x.changes.length : Nat) : Int) != ((y.changes.length : Nat) : Int) then true else ((x.picks.length : Nat) : Int) != ((y.picks.length : Nat) : Int) then true else ((x.digests.length : Nat) : Int) != ((y.digests.length : Nat) : Int)) = true) : slB x y = false := by
 have : ¬ (slB x y = true) := fun hs => by
  unfold slB eqB at hs; simp only [A7, C6] at hs; obtain ⟨h1, h2, h3, _⟩ := hs; rw [h1, h2, h3] at h; simp at h
 simpa using this
def e4h {x y : d7} (h : (bif bif ((x.changes.length : Nat) : Int) != ((y.changes.length : Nat) : Int) then true else ((x.picks.length : Nat) : Int) != ((y.picks.length : Nat) : Int) then true else ((x.digests.length : Nat) : Int) != ((y.digests.length : Nat) : Int)) = false) : x.changes.length = y.changes.length /\ x.picks.length = y.picks.length /\ x.digests.length = y.digests.length := by
 simp only [Y1, X4, Q3] at h
 omega
def g3x : d8q.ok Tp 108 := Con.prove (c := d8q) EF Zg Kg (H := slH) (n := 2) fun (a : HL D d8q.ts) (_ : d8q.holds a) =>
 brL fun m1 : a.1.changes.length <= d4 => brL fun m2 : a.2.1.changes.length <= d4 =>
 bq (bif bif ((a.1.changes.length : Nat) : Int) != ((a.2.1.changes.length : Nat) : Int) then true else ((a.1.picks.length : Nat) : Int) != ((a.2.1.picks.length : Nat) : Int) then true else ((a.1.digests.length : Nat) : Int) != ((a.2.1.digests.length : Nat) : Int))
 (fun h3 => (d5l (g3w h3) : some (false, ()) = some (slB a.1 a.2.1, ())))
 (fun h3 => have hl := (e4h h3).1
 And.intro (⟨(0 : Nat), rfl, rfl, rfl, ⟨C0 _, rfl⟩⟩ : Ent (a1u (α := b8) a.1.changes a.2.1.changes 5) [iv 0] [] [])
 fun (i : Nat) (hI : i <= a.1.changes.length /\ a.1.changes.take i = a.2.1.changes.take i) =>
 brL fun _ : a.1.changes.length <= d4 =>
 bq (decide ((i : Int) < (a.1.changes.length : Int))) (fun h6 => have hi : i < a.1.changes.length := by have := A6 h6; omega
  bN (iX (i : Int) (a.1.changes.length : Int)) (by simp; omega) (
  bN (iX (i : Int) (a.2.1.changes.length : Int)) (by simp; omega) (
  bq (!dq (α := b8) (a.1.changes.getD (Int.toNat (i : Int)) (Ty.dflt D (.st 3) : b8)) (a.2.1.changes.getD (Int.toNat (i : Int)) (Ty.dflt D (.st 3) : b8)))
  (fun h7 => (d5l (by unfold slB; rw [a9z (α := b8) (i := i) (d := (Ty.dflt D (.st 3) : b8)) (nde h7)]; rfl) : some (false, ()) = some (slB a.1 a.2.1, ())))
  (fun h7 => a4e (α := b8) (xs := a.1.changes) (ys := a.2.1.changes) (k := 5) (d := (Ty.dflt D (.st 3) : b8)) hI hi m1 hl (b3z h7)))))
 (fun h6 => have g1 := b0a (α := b8) (i := i) (xs := a.1.changes) (ys := a.2.1.changes) (by have := A9 h6; omega) hl hI
 have hl := (e4h h3).2.1
 And.intro (⟨(0 : Nat), rfl, rfl, rfl, ⟨C0 _, rfl⟩⟩ : Ent (a1u (α := a0i) a.1.picks a.2.1.picks 6) [iv 0] [] [])
 fun (i : Nat) (hI : i <= a.1.picks.length /\ a.1.picks.take i = a.2.1.picks.take i) =>
 brL fun m1 : a.1.picks.length <= d4 =>
 bq (decide ((i : Int) < (a.1.picks.length : Int))) (fun h6 => have hi : i < a.1.picks.length := by have := A6 h6; omega
  bN (iX (i : Int) (a.1.picks.length : Int)) (by simp; omega) (
  bN (iX (i : Int) (a.2.1.picks.length : Int)) (by simp; omega) (
  b1n (bq (bif bif (a.1.picks.getD (Int.toNat (i : Int)) (Ty.dflt D (.st 6) : a0i)).seq != (a.2.1.picks.getD (Int.toNat (i : Int)) (Ty.dflt D (.st 6) : a0i)).seq then true else !decide ((a.1.picks.getD (Int.toNat (i : Int)) (Ty.dflt D (.st 6) : a0i)).dig = (a.2.1.picks.getD (Int.toNat (i : Int)) (Ty.dflt D (.st 6) : a0i)).dig) then true else !eqB (α := p7) (a.1.picks.getD (Int.toNat (i : Int)) (Ty.dflt D (.st 6) : a0i)).batch (a.2.1.picks.getD (Int.toNat (i : Int)) (Ty.dflt D (.st 6) : a0i)).batch)
  (fun h7 => (d5l (by unfold slB; rw [a9z (α := a0i) (i := i) (d := (Ty.dflt D (.st 6) : a0i)) (nde (by rw [f3b] at h7; exact h7)), X5, O5]) : some (false, ()) = some (slB a.1 a.2.1, ())))
  (fun h7 => a4e (α := a0i) (xs := a.1.picks) (ys := a.2.1.picks) (k := 6) (d := (Ty.dflt D (.st 6) : a0i)) hI hi m1 hl (b3z (by rw [f3b] at h7; exact h7)))))))
 (fun h6 => have g2 := b0a (α := a0i) (i := i) (xs := a.1.picks) (ys := a.2.1.picks) (by have := A9 h6; omega) hl hI
 have hl := (e4h h3).2.2
 And.intro (⟨(0 : Nat), rfl, rfl, rfl, ⟨C0 _, rfl⟩⟩ : Ent (a1u (α := Dig) a.1.digests a.2.1.digests 9) [iv 0] [] [])
 fun (i : Nat) (hI : i <= a.1.digests.length /\ a.1.digests.take i = a.2.1.digests.take i) =>
 brL fun m1 : a.1.digests.length <= d4 =>
 bq (decide ((i : Int) < (a.1.digests.length : Int))) (fun h6 => have hi : i < a.1.digests.length := by have := A6 h6; omega
  bN (iX (i : Int) (a.1.digests.length : Int)) (by simp; omega) (
  bN (iX (i : Int) (a.2.1.digests.length : Int)) (by simp; omega) (
  bq (!decide ((a.1.digests.getD (Int.toNat (i : Int)) (Ty.dflt D .dig : Dig)) = (a.2.1.digests.getD (Int.toNat (i : Int)) (Ty.dflt D .dig : Dig))))
  (fun h7 => (d5l (by unfold slB; rw [a9z (α := Dig) (i := i) (d := (Ty.dflt D .dig : Dig)) (nde h7), X5, O5, O5]) : some (false, ()) = some (slB a.1 a.2.1, ())))
  (fun h7 => a4e (α := Dig) (xs := a.1.digests) (ys := a.2.1.digests) (k := 9) (d := (Ty.dflt D .dig : Dig)) hI hi m1 hl (b3z h7)))))
 (fun h6 => have g3 := b0a (α := Dig) (i := i) (xs := a.1.digests) (ys := a.2.1.digests) (by have := A9 h6; omega) hl hI
  (by rw [slB, g1, g2, g3]; simp only [O9, T4, X6] : some (bif bif eqB (α := p7) a.1.batch a.2.1.batch then eqB (α := UInt8) a.1.data a.2.1.data else false then eqB (α := Int) a.1.nodes a.2.1.nodes else false, ()) = some (slB a.1 a.2.1, ()))))))
def c0n : Con D := { ts := [.st 7, .st 7], rt := [.bool], ret := fun a => (dq (α := d7) a.1 a.2.1, ()) }
def m1 (x y : d7) : Bool := bif bif bif bif bif bif bif bif bif bif x.kind != y.kind then true else x.sq != y.sq then true else x.group != y.group then true else x.epoch != y.epoch then true else x.view != y.view then true else x.seq != y.seq then true else !decide (x.dig = y.dig) then true else x.stamp != y.stamp then true else x.node != y.node then true else x.level != y.level then true else x.place != y.place
def m2 (x y : a0n) : Bool := bif bif bif x.err != y.err then true else !eqB x.data y.data then true else x.epoch != y.epoch then true else !eqB x.nodes y.nodes
def g3y (x y : d7) : (bif m1 x y then false else bif m2 x.answer y.answer then false else bif dq x.change y.change then slB x y else false) = dq x y := by
 unfold m1 m2 slB dq eqB
 obtain ⟨_, _, _, _, _, _, _, _, ⟨_, _, _, _⟩, _, _, _, _, _, _, _, _, _, _⟩ := x
 obtain ⟨_, _, _, _, _, _, _, _, ⟨_, _, _, _⟩, _, _, _, _, _, _, _, _, _, _⟩ := y
 rw [J9]
 simp only [Y1, Bool.cond_false_left, O9, A7, K4, X4, Q3, Bool.not_eq_false', C6, d7.mk.injEq, a0n.mk.injEq]
 constructor
 ·rintro ⟨⟨⟨⟨⟨⟨⟨⟨⟨⟨⟨a1, a2⟩, a3⟩, a4⟩, a5⟩, a6⟩, a7⟩, a8⟩, a9⟩, a10⟩, a11⟩, ⟨⟨⟨b1, b2⟩, b3⟩, b4⟩, a12, c1, c2, a13, c3, a14, a15⟩; exact ⟨a1, a2, a3, a4, a5, a6, a7, c3, ⟨b1, b2, b3, b4⟩, a8, a9, a12, c1, c2, a10, a11, a13, a14, a15⟩
 ·rintro ⟨a1, a2, a3, a4, a5, a6, a7, c3, ⟨b1, b2, b3, b4⟩, a8, a9, a12, c1, c2, a10, a11, a13, a14, a15⟩; exact ⟨⟨⟨⟨⟨⟨⟨⟨⟨⟨⟨a1, a2⟩, a3⟩, a4⟩, a5⟩, a6⟩, a7⟩, a8⟩, a9⟩, a10⟩, a11⟩, ⟨⟨⟨b1, b2⟩, b3⟩, b4⟩, a12, c1, c2, a13, c3, a14, a15⟩
def Kg1 : n3 EF Tp (i5 Γg 108 d8q) noO := Kg.c g3x
def f6q {x y : d7} {b : Bool} (h : (bif m1 x y then false else bif m2 x.answer y.answer then false else bif dq x.change y.change then slB x y else false) = b) : some (b, ()) = some (dq x y, ()) := by rw [<- g3y, h]
def e4i : c0n.ok Tp 70 := Con.prove (c := c0n) EF (Z0.side Kg1) Kg1 (H := H0) (n := 2) fun (a : HL D c0n.ts) (_ : c0n.holds a) =>
 bq (m1 a.1 a.2.1) (fun h1 => (f6q (by rw [h1]; rfl) : some (false, ()) = some (dq (α := d7) a.1 a.2.1, ())))
 (fun h1 => b1n (bq (m2 a.1.answer a.2.1.answer) (fun h2 => (f6q (by rw [h1, h2]; rfl) : some (false, ()) = some (dq (α := d7) a.1 a.2.1, ())))
 (fun h2 => (f6q (by rw [h1, h2]; rfl) : some (bif dq (α := b8) a.1.change a.2.1.change then slB a.1 a.2.1 else false, ()) = some (dq (α := d7) a.1 a.2.1, ())))))
abbrev Γh := i5 (i5 (i5 Γg 108 d8q) 70 c0n) 117 c6c
def Kh : n3 EF Tp Γh noO := (Kg1.c e4i).c e4g
def Zh : ZF Tp D := Z0.side Kh
end
end Go.Proofs.YtpbcabanpppfoaaGreat
