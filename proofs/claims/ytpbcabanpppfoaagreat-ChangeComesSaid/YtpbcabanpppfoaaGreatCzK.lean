/- Change: digests: the program's take of a block, and the reference's, walked by reckoning. No condition. -/
import Derived.Test.YtpbcabanpppfoaaGreatCzA
set_option linter.all false
namespace Go.Proofs.YtpbcabanpppfoaaGreat
open Go Go.Gx Go.Vz
set_option maxRecDepth 100000
/-! ### What is reckoned -/
abbrev gi (l : List Int) (i : Nat) : Int := l.getD i 0
def rorP (x : Int) (n : Nat) : Int := bitK .or .u32 (shlK .u32 x ((32 - n : Nat) : Int)) (shrK .u32 x (n : Int))
def xr (a b : Int) : Int := bitK .xor .u32 a b
def ad (a b : Int) : Int := IntKind.wrap .u32 (a + b)
def nd (a b : Int) : Int := bitK .and .u32 a b
def wj (b w : List Int) (t : Nat) : Nat → List Int
  | 0 => w
  | j + 1 => (wj b w t j).set t (bitK .or .u32 (shlK .u32 (gi (wj b w t j) t) 8) (IntKind.wrap .u32 (gi b (4 * t + j))))
def sgm (r : Int → Nat → Int) (x : Int) (p q n : Nat) : Int := xr (xr (r x p) (r x q)) (shrK .u32 x (n : Int))
def w16 (r : Int → Nat → Int) (w : List Int) (a b c d : Nat) : Int := ad (ad (ad (gi w a) (sgm r (gi w b) 7 18 3)) (gi w c)) (sgm r (gi w d) 17 19 10)
def sched (b : List Int) : Nat → List Int
  | 0 => List.replicate 64 0
  | t + 1 => bif Nat.blt t 16 then wj b (sched b t) t 4 else (sched b t).set t (w16 rorP (sched b t) (t - 16) (t - 15) (t - 7) (t - 2))
def bigS (r : Int → Nat → Int) (s k w : List Int) (t : Nat) : Int := ad (ad (ad (ad (gi s 7) (xr (xr (r (gi s 4) 6) (r (gi s 4) 11)) (r (gi s 4) 25))) (xr (nd (gi s 4) (gi s 5)) (nd (bitK .xor .u32 IntKind.u32.max (gi s 4)) (gi s 6)))) (gi k t)) (gi w t)
def smallS (r : Int → Nat → Int) (s : List Int) : Int := ad (xr (xr (r (gi s 0) 2) (r (gi s 0) 13)) (r (gi s 0) 22)) (xr (xr (nd (gi s 0) (gi s 1)) (nd (gi s 0) (gi s 2))) (nd (gi s 1) (gi s 2)))
def stp (r : Int → Nat → Int) (s k w : List Int) : Nat → List Int
  | 0 => [gi s 0, gi s 1, gi s 2, gi s 3, gi s 4, gi s 5, gi s 6, gi s 7]
  | t + 1 => let x := stp r s k w t
    [ad (bigS r x k w t) (smallS r x), gi x 0, gi x 1, gi x 2, ad (gi x 3) (bigS r x k w t), gi x 4, gi x 5, gi x 6]
def addS (s x : List Int) : Nat → List Int
  | 0 => s
  | i + 1 => (addS s x i).set i (ad (gi (addS s x i) i) (gi x i))
def takeF (s b k : List Int) : List Int := addS s (stp rorP s k (sched b 64) 64) 8
/-! ### 179 sha.take -/
abbrev HashC : List CS := [.dat .bool, .dat (.ik .u32), .dat (.ik .i32), .dat (.ik .u32), .dat (.st 15), .dat (.st 13), .dat (.st 14), .dat .int, .dat .int]
def sch_h (b : List Int) (w : Nat) : LH D := ⟨Nat, [26], fun t => [.i .i64 (t : Nat)], fun t => t ≤ 64, fun t => 64 - t, [], fun _ => [], [w], fun t => [.box 217 [.vec .u32 64 (sched b t)]]⟩
def inn_h (b : List Int) (t : Nat) (w : Nat) : LH D := ⟨Nat, [40], fun j => [.i .i64 (j : Nat)], fun j => j ≤ 4, fun j => 4 - j, [], fun _ => [], [w], fun j => [.box 217 [.vec .u32 64 (wj b (sched b t) t j)]]⟩
def rnd_h (s k w : List Int) : LH D := ⟨Nat, [108, 13, 14, 15, 16, 17, 18, 19, 20], fun t => [.i .i64 (t : Nat), .i .u32 (gi (stp rorP s k w t) 0), .i .u32 (gi (stp rorP s k w t) 1), .i .u32 (gi (stp rorP s k w t) 2), .i .u32 (gi (stp rorP s k w t) 3), .i .u32 (gi (stp rorP s k w t) 4), .i .u32 (gi (stp rorP s k w t) 5), .i .u32 (gi (stp rorP s k w t) 6), .i .u32 (gi (stp rorP s k w t) 7)], fun t => t ≤ 64, fun t => 64 - t, [], fun _ => [], [], fun _ => []⟩
def tkH (s b k : List Int) (w : Nat) : Nat → Nat → Option (Hint D) := fun f i => match f, i with
  | 179, 3 => some (.inv (sch_h b w))
  | 179, 7 => some (.dep fun st => .inv (inn_h b (slI st 8).toNat w))
  | 179, 16 => some (.inv (rnd_h s k (sched b 64)))
  | 179, _ => some (.unr 9)
  | _, _ => none
theorem e4 {t : Nat} (h : t < 64) : IntKind.wrap .i64 ((4 : Int) * (t : Int)) = ((4 * t : Nat) : Int) := by rw [IntWalk.i64_in _ (by omega)]; omega
theorem e5 {t : Nat} (h : t < 64) : IntKind.wrap .i64 (IntKind.wrap .i64 ((4 : Int) * (t : Int)) + 4) = ((4 * t + 4 : Nat) : Int) := by rw [e4 h, IntWalk.i64_in _ (by omega)]; omega
theorem at64 {t : Nat} (h : t < 64) : (decide ((0 : Int) ≤ (t : Int)) && decide ((t : Int) < ((64 : Nat) : Int))) = true := by simp; omega
theorem eM {t : Nat} (c : Nat) (h : t < 64) (hc : c ≤ t) : IntKind.wrap .i64 ((t : Int) - (c : Int)) = ((t - c : Nat) : Int) := by rw [IntWalk.i64_in _ (by omega)]; omega
theorem atM {t : Nat} (c : Nat) (h : t < 64) (hc : c ≤ t) : (decide ((0 : Int) ≤ IntKind.wrap .i64 ((t : Int) - (c : Int))) && decide (IntKind.wrap .i64 ((t : Int) - (c : Int)) < ((64 : Nat) : Int))) = true := by rw [eM c h hc]; simp; omega
section
variable (b : List Int) (W : Nat) {t : Nat}
theorem innE : Ent (inn_h b t W) [iv 0] [] [.box 217 [.vec .u32 64 (sched b t)]] := ⟨(0 : Nat), rfl, rfl, rfl, Nat.zero_le _⟩
theorem innR (ht : t < 64) {j : Nat} (hj : j < 4) : Rnd (inn_h b t W) j [iv (IntKind.wrap .i64 ((j : Int) + 1))] [] [.box 217 [.vec .u32 64 ((wj b (sched b t) t j).set t (bitK .or .u32 (shlK .u32 (gi (wj b (sched b t) t j) t) 8) (IntKind.wrap .u32 (gi b (Int.toNat (IntKind.wrap .i64 ((4 : Int) * (t : Int))) + j)))))]] :=
  ⟨(j + 1 : Nat), by rw [wrap1 hj (by decide)]; rfl, rfl, by rw [e4 ht]; rfl, hj, by show 4 - (j + 1) < 4 - j; omega⟩
theorem schR (h3 : t < 16) : Rnd (sch_h b W) t [iv (IntKind.wrap .i64 ((t : Int) + 1))] [] [.box 217 [.vec .u32 64 (wj b (sched b t) t 4)]] :=
  ⟨(t + 1 : Nat), by rw [wrap1 h3 (by decide)]; rfl, rfl, by
    have : Nat.blt t 16 = true := Nat.ble_eq_true_of_le h3
    simp only [sch_h, sched, this, cond_true], by show t + 1 ≤ 64; omega, by show 64 - (t + 1) < 64 - t; omega⟩
theorem schS (ht : t < 64) (h3 : ¬ t < 16) : Rnd (sch_h b W) t [iv (IntKind.wrap .i64 ((t : Int) + 1))] [] [.box 217 [.vec .u32 64 ((sched b t).set t (w16 rorP (sched b t) (Int.toNat (IntKind.wrap .i64 ((t : Int) - 16))) (Int.toNat (IntKind.wrap .i64 ((t : Int) - 15))) (Int.toNat (IntKind.wrap .i64 ((t : Int) - 7))) (Int.toNat (IntKind.wrap .i64 ((t : Int) - 2)))))]] :=
  ⟨(t + 1 : Nat), by rw [wrap1 ht (by decide)]; rfl, rfl, by
    have : Nat.blt t 16 = false := by
      cases h : Nat.blt t 16 with
      | false => rfl
      | true => exact absurd (Nat.le_of_ble_eq_true h) h3
    have e1 := eM 16 ht (by omega)
    have e2 := eM 15 ht (by omega)
    have e3 := eM 7 ht (by omega)
    have e4 := eM 2 ht (by omega)
    simp only [Int.cast_ofNat_Int] at e1 e2 e3 e4
    rw [e1, e2, e3, e4]
    simp only [sch_h, sched, this, cond_false, Int.toNat_natCast], by show t + 1 ≤ 64; omega, by show 64 - (t + 1) < 64 - t; omega⟩
end
theorem rndR (s k w : List Int) {i : Nat} (hi : i < 64) : Rnd (rnd_h s k w) i [iv (IntKind.wrap .i64 ((i : Int) + 1)), .i .u32 (ad (bigS rorP (stp rorP s k w i) k w i) (smallS rorP (stp rorP s k w i))), .i .u32 (gi (stp rorP s k w i) 0), .i .u32 (gi (stp rorP s k w i) 1), .i .u32 (gi (stp rorP s k w i) 2), .i .u32 (ad (gi (stp rorP s k w i) 3) (bigS rorP (stp rorP s k w i) k w i)), .i .u32 (gi (stp rorP s k w i) 4), .i .u32 (gi (stp rorP s k w i) 5), .i .u32 (gi (stp rorP s k w i) 6)] [] [] :=
  ⟨(i + 1 : Nat), by rw [wrap1 hi (by decide)]; rfl, rfl, rfl, by show i + 1 ≤ 64; omega, by show 64 - (i + 1) < 64 - i; omega⟩
abbrev A4 (t : Nat) : Int := IntKind.wrap .i64 ((4 : Int) * (t : Int))
def take2_c : OCon D := { ash := [.dat (.st 13), .nm 0, .nm 1 4], es := [.box 175 [.dat (.st 14)], .box 261 HashC], rsh := [.dat (.st 13)], pes := [.box 175 [.dat (.st 14)], .box 261 HashC], post := fun a e => ((⟨takeF a.1.l e.1.1.l e.2.1.2.2.2.2.1.l⟩, ()), e) }
theorem take2_ok : take2_c.ok EF Tryz.prog 179 := OCon.prove (c := take2_c) EF Z0 K0 (H := fun a e => tkH a.1.l e.1.1.l e.2.1.2.2.2.2.1.l 5) (n := 3) fun (a : CL D take2_c.ash) (e : EL D take2_c.es) (_ : take2_c.holds a e) =>
  And.intro (⟨(0 : Nat), rfl, rfl, rfl, Nat.zero_le _⟩ : Ent (sch_h e.1.1.l 5) [iv 0] [] [.box 217 [.vec .u32 64 (List.replicate 64 0)]])
  fun (t : Nat) (h1 : t ≤ 64) =>
  bq (decide ((t : Int) < 64)) (fun h2 => have ht : t < 64 := by have := of_decide_eq_true h2; omega
    bq (decide ((t : Int) < 16)) (fun h3 => have h16 : t < 16 := by have := of_decide_eq_true h3; omega
      brN (c := decide (0 ≤ A4 t) && (decide (A4 t ≤ IntKind.wrap .i64 (A4 t + 4)) && (decide (IntKind.wrap .i64 (A4 t + 4) ≤ ((64 : Nat) : Int)) && decide (A4 t < ((64 : Nat) : Int))))) (by unfold A4; rw [e5 ht, e4 ht]; simp; omega) (
      And.intro (innE e.1.1.l 5 (t := t)) fun (j : Nat) (h4 : j ≤ 4) =>
      bq (decide ((j : Int) < ((Int.toNat (IntKind.wrap .i64 (A4 t + 4)) - Int.toNat (A4 t) : Nat) : Int))) (fun h5 => have hj : j < 4 := by unfold A4 at h5; rw [e5 ht, e4 ht] at h5; simp at h5; omega
        brN (c := decide (0 ≤ (j : Int)) && decide ((j : Int) < ((Int.toNat (IntKind.wrap .i64 (A4 t + 4)) - Int.toNat (A4 t) : Nat) : Int))) (by rw [h5]; simp) (
        brN (c := decide (0 ≤ (t : Int)) && decide ((t : Int) < ((64 : Nat) : Int))) (at64 ht) (
        brN (c := decide (0 ≤ (t : Int)) && decide ((t : Int) < ((64 : Nat) : Int))) (at64 ht) (
        innR e.1.1.l 5 ht hj))))
      (fun h5 => have hj : j = 4 := by unfold A4 at h5; rw [e5 ht, e4 ht] at h5; simp at h5; omega
        (by rw [hj]; exact schR _ _ h16 : Rnd (sch_h e.1.1.l 5) t [iv (IntKind.wrap .i64 ((t : Int) + 1))] [] [.box 217 [.vec .u32 64 (wj e.1.1.l (sched e.1.1.l t) t j)]]))))
    (fun h3 => have h16 : ¬ t < 16 := by have := of_decide_eq_false h3; omega
      brN (c := decide (0 ≤ IntKind.wrap .i64 ((t : Int) - 15)) && decide (IntKind.wrap .i64 ((t : Int) - 15) < ((64 : Nat) : Int))) (atM 15 ht (by omega)) (
      brN (c := decide (0 ≤ IntKind.wrap .i64 ((t : Int) - 2)) && decide (IntKind.wrap .i64 ((t : Int) - 2) < ((64 : Nat) : Int))) (atM 2 ht (by omega)) (
      brN (c := decide (0 ≤ IntKind.wrap .i64 ((t : Int) - 16)) && decide (IntKind.wrap .i64 ((t : Int) - 16) < ((64 : Nat) : Int))) (atM 16 ht (by omega)) (
      brN (c := decide (0 ≤ IntKind.wrap .i64 ((t : Int) - 7)) && decide (IntKind.wrap .i64 ((t : Int) - 7) < ((64 : Nat) : Int))) (atM 7 ht (by omega)) (
      brN (c := decide (0 ≤ (t : Int)) && decide ((t : Int) < ((64 : Nat) : Int))) (at64 ht) (
      schS e.1.1.l 5 ht h16)))))))
  (fun h2 => have ht : t = 64 := by simp at h2; omega
    And.intro (⟨(0 : Nat), rfl, rfl, rfl, Nat.zero_le _⟩ : Ent (rnd_h a.1.l e.2.1.2.2.2.2.1.l (sched e.1.1.l 64)) [iv 0, .i .u32 (gi a.1.l 0), .i .u32 (gi a.1.l 1), .i .u32 (gi a.1.l 2), .i .u32 (gi a.1.l 3), .i .u32 (gi a.1.l 4), .i .u32 (gi a.1.l 5), .i .u32 (gi a.1.l 6), .i .u32 (gi a.1.l 7)] [] [])
    fun (i : Nat) (h3 : i ≤ 64) =>
    bq (decide ((i : Int) < 64)) (fun h4 => have hi : i < 64 := by have := of_decide_eq_true h4; omega
      brN (c := decide (0 ≤ (i : Int)) && decide ((i : Int) < ((64 : Nat) : Int))) (at64 hi) (
      brN (c := decide (0 ≤ (i : Int)) && decide ((i : Int) < ((64 : Nat) : Int))) (at64 hi) (
      (by rw [ht]; exact rndR a.1.l e.2.1.2.2.2.2.1.l (sched e.1.1.l 64) hi : Rnd (rnd_h a.1.l e.2.1.2.2.2.2.1.l (sched e.1.1.l 64)) i [iv (IntKind.wrap .i64 ((i : Int) + 1)), .i .u32 (ad (bigS rorP (stp rorP a.1.l e.2.1.2.2.2.2.1.l (sched e.1.1.l 64) i) e.2.1.2.2.2.2.1.l (sched e.1.1.l t) i) (smallS rorP (stp rorP a.1.l e.2.1.2.2.2.2.1.l (sched e.1.1.l 64) i))), .i .u32 (gi (stp rorP a.1.l e.2.1.2.2.2.2.1.l (sched e.1.1.l 64) i) 0), .i .u32 (gi (stp rorP a.1.l e.2.1.2.2.2.2.1.l (sched e.1.1.l 64) i) 1), .i .u32 (gi (stp rorP a.1.l e.2.1.2.2.2.2.1.l (sched e.1.1.l 64) i) 2), .i .u32 (ad (gi (stp rorP a.1.l e.2.1.2.2.2.2.1.l (sched e.1.1.l 64) i) 3) (bigS rorP (stp rorP a.1.l e.2.1.2.2.2.2.1.l (sched e.1.1.l 64) i) e.2.1.2.2.2.2.1.l (sched e.1.1.l t) i)), .i .u32 (gi (stp rorP a.1.l e.2.1.2.2.2.2.1.l (sched e.1.1.l 64) i) 4), .i .u32 (gi (stp rorP a.1.l e.2.1.2.2.2.2.1.l (sched e.1.1.l 64) i) 5), .i .u32 (gi (stp rorP a.1.l e.2.1.2.2.2.2.1.l (sched e.1.1.l 64) i) 6)] [] []))))
    (fun h4 => have hi : i = 64 := by simp at h4; omega
      (by rw [hi]; rfl : some (((⟨addS a.1.l (stp rorP a.1.l e.2.1.2.2.2.2.1.l (sched e.1.1.l 64) i) 8⟩ : AV .u32 8), ()), e) = some (take2_c.post a e))))
def take1_c : OCon D := { ash := [.dat (.st 13), .nm 0 76, .nm 0 4], es := [.box 261 HashC], rsh := [.dat (.st 13)], pes := [.box 261 HashC], post := fun a e => ((⟨takeF a.1.l e.1.2.2.2.2.2.2.1.l e.1.2.2.2.2.1.l⟩, ()), e) }
theorem take1_ok : take1_c.ok EF Tryz.prog 179 := OCon.prove (c := take1_c) EF Z0 K0 (H := fun a e => tkH a.1.l e.1.2.2.2.2.2.2.1.l e.1.2.2.2.2.1.l 4) (n := 3) fun (a : CL D take1_c.ash) (e : EL D take1_c.es) (_ : take1_c.holds a e) =>
  And.intro (⟨(0 : Nat), rfl, rfl, rfl, Nat.zero_le _⟩ : Ent (sch_h e.1.2.2.2.2.2.2.1.l 4) [iv 0] [] [.box 217 [.vec .u32 64 (List.replicate 64 0)]])
  fun (t : Nat) (h1 : t ≤ 64) =>
  bq (decide ((t : Int) < 64)) (fun h2 => have ht : t < 64 := by have := of_decide_eq_true h2; omega
    bq (decide ((t : Int) < 16)) (fun h3 => have h16 : t < 16 := by have := of_decide_eq_true h3; omega
      brN (c := decide (0 ≤ A4 t) && (decide (A4 t ≤ IntKind.wrap .i64 (A4 t + 4)) && (decide (IntKind.wrap .i64 (A4 t + 4) ≤ ((64 : Nat) : Int)) && decide (A4 t < ((64 : Nat) : Int))))) (by unfold A4; rw [e5 ht, e4 ht]; simp; omega) (
      And.intro (innE e.1.2.2.2.2.2.2.1.l 4 (t := t)) fun (j : Nat) (h4 : j ≤ 4) =>
      bq (decide ((j : Int) < ((Int.toNat (IntKind.wrap .i64 (A4 t + 4)) - Int.toNat (A4 t) : Nat) : Int))) (fun h5 => have hj : j < 4 := by unfold A4 at h5; rw [e5 ht, e4 ht] at h5; simp at h5; omega
        brN (c := decide (0 ≤ (j : Int)) && decide ((j : Int) < ((Int.toNat (IntKind.wrap .i64 (A4 t + 4)) - Int.toNat (A4 t) : Nat) : Int))) (by rw [h5]; simp) (
        brN (c := decide (0 ≤ (t : Int)) && decide ((t : Int) < ((64 : Nat) : Int))) (at64 ht) (
        brN (c := decide (0 ≤ (t : Int)) && decide ((t : Int) < ((64 : Nat) : Int))) (at64 ht) (
        innR e.1.2.2.2.2.2.2.1.l 4 ht hj))))
      (fun h5 => have hj : j = 4 := by unfold A4 at h5; rw [e5 ht, e4 ht] at h5; simp at h5; omega
        (by rw [hj]; exact schR _ _ h16 : Rnd (sch_h e.1.2.2.2.2.2.2.1.l 4) t [iv (IntKind.wrap .i64 ((t : Int) + 1))] [] [.box 217 [.vec .u32 64 (wj e.1.2.2.2.2.2.2.1.l (sched e.1.2.2.2.2.2.2.1.l t) t j)]]))))
    (fun h3 => have h16 : ¬ t < 16 := by have := of_decide_eq_false h3; omega
      brN (c := decide (0 ≤ IntKind.wrap .i64 ((t : Int) - 15)) && decide (IntKind.wrap .i64 ((t : Int) - 15) < ((64 : Nat) : Int))) (atM 15 ht (by omega)) (
      brN (c := decide (0 ≤ IntKind.wrap .i64 ((t : Int) - 2)) && decide (IntKind.wrap .i64 ((t : Int) - 2) < ((64 : Nat) : Int))) (atM 2 ht (by omega)) (
      brN (c := decide (0 ≤ IntKind.wrap .i64 ((t : Int) - 16)) && decide (IntKind.wrap .i64 ((t : Int) - 16) < ((64 : Nat) : Int))) (atM 16 ht (by omega)) (
      brN (c := decide (0 ≤ IntKind.wrap .i64 ((t : Int) - 7)) && decide (IntKind.wrap .i64 ((t : Int) - 7) < ((64 : Nat) : Int))) (atM 7 ht (by omega)) (
      brN (c := decide (0 ≤ (t : Int)) && decide ((t : Int) < ((64 : Nat) : Int))) (at64 ht) (
      schS e.1.2.2.2.2.2.2.1.l 4 ht h16)))))))
  (fun h2 => have ht : t = 64 := by simp at h2; omega
    And.intro (⟨(0 : Nat), rfl, rfl, rfl, Nat.zero_le _⟩ : Ent (rnd_h a.1.l e.1.2.2.2.2.1.l (sched e.1.2.2.2.2.2.2.1.l 64)) [iv 0, .i .u32 (gi a.1.l 0), .i .u32 (gi a.1.l 1), .i .u32 (gi a.1.l 2), .i .u32 (gi a.1.l 3), .i .u32 (gi a.1.l 4), .i .u32 (gi a.1.l 5), .i .u32 (gi a.1.l 6), .i .u32 (gi a.1.l 7)] [] [])
    fun (i : Nat) (h3 : i ≤ 64) =>
    bq (decide ((i : Int) < 64)) (fun h4 => have hi : i < 64 := by have := of_decide_eq_true h4; omega
      brN (c := decide (0 ≤ (i : Int)) && decide ((i : Int) < ((64 : Nat) : Int))) (at64 hi) (
      brN (c := decide (0 ≤ (i : Int)) && decide ((i : Int) < ((64 : Nat) : Int))) (at64 hi) (
      (by rw [ht]; exact rndR a.1.l e.1.2.2.2.2.1.l (sched e.1.2.2.2.2.2.2.1.l 64) hi : Rnd (rnd_h a.1.l e.1.2.2.2.2.1.l (sched e.1.2.2.2.2.2.2.1.l 64)) i [iv (IntKind.wrap .i64 ((i : Int) + 1)), .i .u32 (ad (bigS rorP (stp rorP a.1.l e.1.2.2.2.2.1.l (sched e.1.2.2.2.2.2.2.1.l 64) i) e.1.2.2.2.2.1.l (sched e.1.2.2.2.2.2.2.1.l t) i) (smallS rorP (stp rorP a.1.l e.1.2.2.2.2.1.l (sched e.1.2.2.2.2.2.2.1.l 64) i))), .i .u32 (gi (stp rorP a.1.l e.1.2.2.2.2.1.l (sched e.1.2.2.2.2.2.2.1.l 64) i) 0), .i .u32 (gi (stp rorP a.1.l e.1.2.2.2.2.1.l (sched e.1.2.2.2.2.2.2.1.l 64) i) 1), .i .u32 (gi (stp rorP a.1.l e.1.2.2.2.2.1.l (sched e.1.2.2.2.2.2.2.1.l 64) i) 2), .i .u32 (ad (gi (stp rorP a.1.l e.1.2.2.2.2.1.l (sched e.1.2.2.2.2.2.2.1.l 64) i) 3) (bigS rorP (stp rorP a.1.l e.1.2.2.2.2.1.l (sched e.1.2.2.2.2.2.2.1.l 64) i) e.1.2.2.2.2.1.l (sched e.1.2.2.2.2.2.2.1.l t) i)), .i .u32 (gi (stp rorP a.1.l e.1.2.2.2.2.1.l (sched e.1.2.2.2.2.2.2.1.l 64) i) 4), .i .u32 (gi (stp rorP a.1.l e.1.2.2.2.2.1.l (sched e.1.2.2.2.2.2.2.1.l 64) i) 5), .i .u32 (gi (stp rorP a.1.l e.1.2.2.2.2.1.l (sched e.1.2.2.2.2.2.2.1.l 64) i) 6)] [] []))))
    (fun h4 => have hi : i = 64 := by simp at h4; omega
      (by rw [hi]; rfl : some (((⟨addS a.1.l (stp rorP a.1.l e.1.2.2.2.2.1.l (sched e.1.2.2.2.2.2.2.1.l 64) i) 8⟩ : AV .u32 8), ()), e) = some (take1_c.post a e))))
end Go.Proofs.YtpbcabanpppfoaaGreat

namespace Go.Proofs.YtpbcabanpppfoaaGreat
open Go Go.Gx Go.Vz
set_option maxRecDepth 100000
/-! ### 245 bits.Mul64 -/
abbrev m32 (x : Int) : Int := bitK .and .u64 x 4294967295
abbrev s32 (x : Int) : Int := shrK .u64 x 32
abbrev w64 (x : Int) : Int := IntKind.wrap .u64 x
def mhi (x y : Int) : Int :=
  let t := w64 (w64 (s32 x * m32 y) + s32 (w64 (m32 x * m32 y)))
  w64 (w64 (w64 (s32 x * s32 y) + s32 t) + s32 (w64 (m32 t + w64 (m32 x * s32 y))))
def mul_c : Con D := { ts := [.ik .u64, .ik .u64], rt := [.ik .u64, .ik .u64], ret := fun a => (mhi a.1 a.2.1, w64 (a.1 * a.2.1), ()) }
theorem mul_ok : mul_c.ok Tryz.prog 245 := Con.prove (c := mul_c) EF Z0 K0 (H := H0) (n := 0) fun (a : HL D mul_c.ts) (_ : mul_c.holds a) =>
  (rfl : some (mhi a.1 a.2.1, w64 (a.1 * a.2.1), ()) = some (mul_c.ret a))
abbrev Γm := addC noC 245 mul_c
theorem Km : Kept EF Tryz.prog Γm noO := K0.c mul_ok
/-! ### 238 sha.within -/
def wsum (x : Int) : Int := w64 (mhi x x * x) + mhi (w64 (x * x)) x + 0
def withinF (x p pow : Int) : Bool :=
  bif pow == 2 then bif decide (mhi x x < p) then true else bif mhi x x == p then w64 (x * x) == 0 else false
  else bif wsum x / 18446744073709551616 == 0 then
    bif decide (wsum x % 18446744073709551616 < shlK .u64 p 32) then true else bif wsum x % 18446744073709551616 == shlK .u64 p 32 then w64 (w64 (x * x) * x) == 0 else false
    else false
def wthn_c : Con D := { ts := [.ik .u64, .ik .u64, .int], rt := [.bool], ret := fun a => (withinF a.1 a.2.1 a.2.2.1, ()) }
theorem w64_nn (x : Int) : 0 ≤ w64 x := by unfold w64; rw [IntKind.wrap_u64]; omega
theorem wr {c : Bool} {a : HL D wthn_c.ts} (h : c = withinF a.1 a.2.1 a.2.2.1) : some (c, ()) = some (wthn_c.ret a) := by rw [h]; rfl
theorem wthn_ok : wthn_c.ok Tryz.prog 238 := Con.prove (c := wthn_c) EF Z0 Km (H := H0) (n := 0) fun (a : HL D wthn_c.ts) (_ : wthn_c.holds a) =>
  bq (a.2.2.1 == 2) (fun h1 => bq (decide (mhi a.1 a.1 < a.2.1)) (fun h2 => wr (ct h1 (ct h2 rfl))) (fun h2 => bq (mhi a.1 a.1 == a.2.1) (fun h3 => wr (ct h1 (cf h2 (ct h3 rfl)))) (fun h3 => wr (ct h1 (cf h2 (cf h3 rfl))))))
  (fun h1 => brN (c := decide (0 ≤ w64 (mhi a.1 a.1 * a.1)) && (decide (0 ≤ mhi (w64 (a.1 * a.1)) a.1) && (decide ((0 : Int) ≤ 0) && decide ((0 : Int) ≤ 1)))) (by simp only [Bool.and_eq_true, decide_eq_true_eq]; exact ⟨w64_nn _, w64_nn _, by decide, by decide⟩) (
    bq (wsum a.1 / 18446744073709551616 == 0) (fun h2 => bq (decide (wsum a.1 % 18446744073709551616 < shlK .u64 a.2.1 32)) (fun h3 => wr (cf h1 (ct h2 (ct h3 rfl)))) (fun h3 => bq (wsum a.1 % 18446744073709551616 == shlK .u64 a.2.1 32) (fun h4 => wr (cf h1 (ct h2 (cf h3 (ct h4 rfl))))) (fun h4 => wr (cf h1 (ct h2 (cf h3 (cf h4 rfl)))))))
    (fun h2 => wr (cf h1 (cf h2 rfl)))))
abbrev Γw := addC noC 238 wthn_c
theorem Kw : Kept EF Tryz.prog Γw noO := K0.c wthn_ok
/-! ### 226 sha.root -/
def bitv : Nat → Int
  | 0 => 68719476736
  | i + 1 => shrK .u64 (bitv i) 1
def rootX (p pow : Int) : Nat → Int
  | 0 => 0
  | i + 1 => bif withinF (bitK .or .u64 (rootX p pow i) (bitv i)) p pow then bitK .or .u64 (rootX p pow i) (bitv i) else rootX p pow i
def rootF (p pow : Int) : Int := IntKind.wrap .u32 (rootX p pow 37)
theorem bitv_all : (List.range 38).all (fun i => decide (0 < bitv i) == decide (i < 37)) = true := by kernel_rfl
theorem bitv_pos {i : Nat} (h : i ≤ 37) : decide (0 < bitv i) = decide (i < 37) := by
  have := List.all_eq_true.1 bitv_all i (List.mem_range.2 (by omega))
  exact beq_iff_eq.1 this
def root_c : Con D := { ts := [.ik .u64, .int], rt := [.ik .u32], ret := fun a => (rootF a.1 a.2.1, ()) }
def root_h (p pow : Int) : LH D := ⟨Nat, [5, 6], fun i => [.i .u64 (rootX p pow i), .i .u64 (bitv i)], fun i => i ≤ 37, fun i => 37 - i, [], fun _ => [], [], fun _ => []⟩
theorem root_ok : root_c.ok Tryz.prog 226 := Con.prove (c := root_c) EF Z0 Kw (H := fun a _ i => match i with | 3 => some (.inv (root_h a.1 a.2.1)) | _ => none) (n := 0) fun (a : HL D root_c.ts) (_ : root_c.holds a) =>
  And.intro (⟨(0 : Nat), rfl, rfl, rfl, Nat.zero_le _⟩ : Ent (root_h a.1 a.2.1) [.i .u64 0, .i .u64 68719476736] [] [])
  fun (i : Nat) (h1 : i ≤ 37) =>
  bq (decide (0 < bitv i)) (fun h2 => have hi : i < 37 := of_decide_eq_true ((bitv_pos h1).symm.trans h2)
    bq (withinF (bitK .or .u64 (rootX a.1 a.2.1 i) (bitv i)) a.1 a.2.1)
      (fun h3 => (⟨(i + 1 : Nat), by simp only [root_h, rootX, h3, cond_true]; rfl, rfl, rfl, hi, by show 37 - (i + 1) < 37 - i; omega⟩ : Rnd (root_h a.1 a.2.1) i [.i .u64 (bitK .or .u64 (rootX a.1 a.2.1 i) (bitv i)), .i .u64 (shrK .u64 (bitv i) 1)] [] []))
      (fun h3 => (⟨(i + 1 : Nat), by simp only [root_h, rootX, h3, cond_false]; rfl, rfl, rfl, hi, by show 37 - (i + 1) < 37 - i; omega⟩ : Rnd (root_h a.1 a.2.1) i [.i .u64 (rootX a.1 a.2.1 i), .i .u64 (shrK .u64 (bitv i) 1)] [] [])))
  (fun h2 => have hi : i = 37 := by have := of_decide_eq_false ((bitv_pos h1).symm.trans h2); omega
    (by rw [hi]; rfl : some (IntKind.wrap .u32 (rootX a.1 a.2.1 i), ()) = some (root_c.ret a)))
/-! ### 225 sha.primes -/
def P8 : List Int := [2, 3, 5, 7, 11, 13, 17, 19]
def P64 : List Int := [2, 3, 5, 7, 11, 13, 17, 19, 23, 29, 31, 37, 41, 43, 47, 53, 59, 61, 67, 71, 73, 79, 83, 89, 97, 101, 103, 107, 109, 113, 127, 131, 137, 139, 149, 151, 157, 163, 167, 173, 179, 181, 191, 193, 197, 199, 211, 223, 227, 229, 233, 239, 241, 251, 257, 263, 269, 271, 277, 281, 283, 293, 307, 311]
def pI (i : Nat) : Int := ((i + 2 : Nat) : Int)
def pr : Nat → List Int
  | 0 => []
  | i + 1 => bif (pr i).any (fun p => (pI i).tmod p == 0) then pr i else pr i ++ [pI i]
def Nn (m : Int) : Nat := bif m == 64 then 310 else 18
theorem pr_310 : pr 310 = P64 := by kernel_rfl
theorem pr_18 : pr 18 = P8 := by kernel_rfl
theorem pr_309 : (pr 309).length = 63 := by kernel_rfl
theorem pr_17 : (pr 17).length = 7 := by kernel_rfl
theorem pr_le (i : Nat) : (pr i).length ≤ (pr (i + 1)).length := by
  rw [pr]; cases (pr i).any _ with
  | true => exact Nat.le_refl _
  | false => simp
theorem pr_mono {i j : Nat} (h : i ≤ j) : (pr i).length ≤ (pr j).length := by
  induction h with
  | refl => exact Nat.le_refl _
  | step _ ih => exact Nat.le_trans ih (pr_le _)
theorem pr_pos : ∀ (i : Nat) (x : Int), x ∈ pr i → 2 ≤ x
  | 0, x, h => by cases h
  | i + 1, x, h => by
    rw [pr] at h
    cases hc : (pr i).any (fun p => (pI i).tmod p == 0) with
    | true => rw [hc] at h; exact pr_pos i x h
    | false =>
      rw [hc] at h
      rcases List.mem_append.1 h with h | h
      · exact pr_pos i x h
      · rw [List.mem_singleton] at h; subst h; unfold pI; omega
def isM (m : Int) : Prop := m = 8 ∨ m = 64
theorem len_N {m : Int} (h : isM m) : ((pr (Nn m)).length : Int) = m := by
  rcases h with rfl | rfl
  · show ((pr 18).length : Int) = 8
    rw [pr_18]; rfl
  · show ((pr 310).length : Int) = 64
    rw [pr_310]; rfl
theorem pr_N {m : Int} (h : isM m) : pr (Nn m) = bif m == 64 then P64 else P8 := by
  rcases h with rfl | rfl
  · exact pr_18
  · exact pr_310
theorem len_lt {m : Int} (h : isM m) {i : Nat} (hi : i < Nn m) : ((pr i).length : Int) < m := by
  rcases h with rfl | rfl
  · have h1 : i ≤ 17 := Nat.le_of_lt_succ hi
    have := pr_mono h1
    rw [pr_17] at this
    omega
  · have h1 : i ≤ 309 := Nat.le_of_lt_succ hi
    have := pr_mono h1
    rw [pr_309] at this
    omega
theorem Nn_le (m : Int) : Nn m ≤ 310 := by unfold Nn; cases m == 64 <;> decide
theorem mb196 : mulB Tryz.prog 196 = 8 := by kernel_rfl
def primes_c : Con D := { ts := [.int], rt := [.sl (.ik .u64)], pre := some (fun a => isM a.1), ret := fun a => (bif a.1 == 64 then P64 else P8, ()) }
def prm_h (N : Nat) : LH D := ⟨Nat, [4, 3], fun i => [.i .u64 (pI i), .own 0], fun i => i ≤ N, fun i => N - i, [(.sl 3, .ik .u64, 196)], fun i => [.arr (.ik .u64) 196 (pr i)], [], fun _ => []⟩
def prn_h (l : List Int) (n : Int) : LH D := ⟨Nat, [15], fun j => [.i .i64 (j : Nat)], fun j => j ≤ l.length ∧ (l.take j).any (fun p => n.tmod p == 0) = false, fun j => l.length - j, [], fun _ => [], [], fun _ => []⟩
theorem any_at {l : List Int} {n : Int} {j : Nat} (hj : j < l.length) (h : (n.tmod (gi l j) == 0) = true) : l.any (fun p => n.tmod p == 0) = true :=
  List.any_eq_true.2 ⟨gi l j, by unfold gi; rw [List.getD_eq_getElem?_getD, List.getElem?_eq_getElem hj]; exact List.getElem_mem hj, h⟩
theorem any_step {l : List Int} {n : Int} {j : Nat} (hj : j < l.length) (h0 : (l.take j).any (fun p => n.tmod p == 0) = false) (h : (n.tmod (gi l j) == 0) = false) : (l.take (j + 1)).any (fun p => n.tmod p == 0) = false := by
  rw [List.take_add_one, List.any_append, h0, List.getElem?_eq_getElem hj]
  have : gi l j = l[j] := by unfold gi; rw [List.getD_eq_getElem?_getD, List.getElem?_eq_getElem hj]; rfl
  rw [this] at h
  simp [h]
theorem pI_wrap {i : Nat} (h : i ≤ 310) : IntKind.wrap .u64 (pI i + 1) = pI (i + 1) := by unfold pI; rw [IntKind.wrap_u64]; omega
theorem primes_ok : primes_c.ok Tryz.prog 225 := Con.prove (c := primes_c) EF Z0 K0 (H := fun a _ r => match r with | 3 => some (.inv (prm_h (Nn a.1))) | 6 => some (.dep fun s => .inv (prn_h (owI s 13) (slI s 4))) | _ => none) (n := 0) fun (a : HL D primes_c.ts) (hp : isM a.1) =>
  And.intro (⟨(0 : Nat), rfl, rfl, rfl, Nat.zero_le _⟩ : Ent (prm_h (Nn a.1)) [.i .u64 2, .own 0] [.arr (.ik .u64) 196 []] [])
  fun (i : Nat) (h1 : i ≤ Nn a.1) =>
  bq (decide (((pr i).length : Int) < a.1)) (fun h2 =>
    have hi : i < Nn a.1 := by
      have h2 := of_decide_eq_true h2
      rcases Nat.lt_or_ge i (Nn a.1) with h | h
      · exact h
      · have : i = Nn a.1 := Nat.le_antisymm h1 h
        rw [this, len_N hp] at h2; omega
    have h31 : i ≤ 310 := Nat.le_trans h1 (Nn_le _)
    And.intro (⟨(0 : Nat), rfl, rfl, rfl, Nat.zero_le _, rfl⟩ : Ent (prn_h (pr i) (pI i)) [iv 0] [] [])
    fun (j : Nat) (h3 : j ≤ (pr i).length ∧ ((pr i).take j).any (fun p => (pI i).tmod p == 0) = false) =>
    bq (decide ((j : Int) < ((pr i).length : Int))) (fun h4 =>
      have hj : j < (pr i).length := by have := of_decide_eq_true h4; omega
      have hl : (pr i).length ≤ 64 := by have := len_lt hp hi; rcases hp with h | h <;> omega
      brN (c := decide (0 ≤ (j : Int)) && decide ((j : Int) < ((pr i).length : Int))) (by simp; omega) (
      brN (c := gi (pr i) j != 0) (by
        have : 2 ≤ gi (pr i) j := pr_pos i _ (by unfold gi; rw [List.getD_eq_getElem?_getD, List.getElem?_eq_getElem hj]; exact List.getElem_mem hj)
        simp only [bne_iff_ne, ne_eq]; omega) (
      bq ((pI i).tmod (gi (pr i) j) == 0)
        (fun h5 => (⟨(i + 1 : Nat), by rw [pI_wrap h31]; rfl, by show _ = [HB.arr (.ik .u64) 196 (pr (i + 1))]; rw [pr, any_at hj h5]; rfl, rfl, hi, by show Nn a.1 - (i + 1) < Nn a.1 - i; omega⟩ : Rnd (prm_h (Nn a.1)) i [.i .u64 (IntKind.wrap .u64 (pI i + 1)), .own 0] [.arr (.ik .u64) 196 (pr i)] []))
        (fun h5 => (⟨(j + 1 : Nat), by rw [wrap1 hj (Nat.le_trans hl (by decide))]; rfl, rfl, rfl, ⟨hj, any_step hj h3.2 h5⟩, by show (pr i).length - (j + 1) < (pr i).length - j; omega⟩ : Rnd (prn_h (pr i) (pI i)) j [iv (IntKind.wrap .i64 ((j : Int) + 1))] [] [])))))
    (fun h4 =>
      have hj : j = (pr i).length := by have := of_decide_eq_false h4; omega
      have hl : (pr i).length ≤ 64 := by have := len_lt hp hi; rcases hp with h | h <;> omega
      brN (c := Nat.ble (((pr i).length + 1) * mulB Tryz.prog 196) maxL) (by rw [mb196]; exact Nat.ble_eq_true_of_le (by unfold maxL; omega)) (
      (⟨(i + 1 : Nat), by rw [pI_wrap h31]; rfl, by
          show _ = [HB.arr (.ik .u64) 196 (pr (i + 1))]
          have := h3.2
          rw [hj, List.take_length] at this
          rw [pr, this]; rfl, rfl, hi, by show Nn a.1 - (i + 1) < Nn a.1 - i; omega⟩ : Rnd (prm_h (Nn a.1)) i [.i .u64 (IntKind.wrap .u64 (pI i + 1)), .own 0] [.arr (.ik .u64) 196 (pr i ++ [pI i])] []))))
  (fun h2 =>
    have hi : i = Nn a.1 := by
      rcases Nat.lt_or_ge i (Nn a.1) with h | h
      · have h2 := of_decide_eq_false h2
        exact absurd (len_lt hp h) h2
      · exact Nat.le_antisymm h1 h
    (by rw [hi, pr_N hp]; rfl : some (pr i, ()) = some (primes_c.ret a)))
/-! ### 211 sha.roots, 212 sha.start -/
def KL : List Int := [1116352408, 1899447441, 3049323471, 3921009573, 961987163, 1508970993, 2453635748, 2870763221, 3624381080, 310598401, 607225278, 1426881987, 1925078388, 2162078206, 2614888103, 3248222580, 3835390401, 4022224774, 264347078, 604807628, 770255983, 1249150122, 1555081692, 1996064986, 2554220882, 2821834349, 2952996808, 3210313671, 3336571891, 3584528711, 113926993, 338241895, 666307205, 773529912, 1294757372, 1396182291, 1695183700, 1986661051, 2177026350, 2456956037, 2730485921, 2820302411, 3259730800, 3345764771, 3516065817, 3600352804, 4094571909, 275423344, 430227734, 506948616, 659060556, 883997877, 958139571, 1322822218, 1537002063, 1747873779, 1955562222, 2024104815, 2227730452, 2361852424, 2428436474, 2756734187, 3204031479, 3329325298]
def SL : List Int := [1779033703, 3144134277, 1013904242, 2773480762, 1359893119, 2600822924, 528734635, 1541459225]
abbrev Γr := addC (addC noC 226 root_c) 225 primes_c
theorem Kr : Kept EF Tryz.prog Γr noO := (K0.c root_ok).c primes_ok
def HR {α : Type} : α → Nat → Nat → Option (Hint D) := fun _ _ _ => some (.unr 65)
def roots_c : Con D := { ts := [], rt := [.st 15], ret := fun _ => (⟨KL⟩, ()) }
theorem roots_ok : roots_c.ok Tryz.prog 211 := Con.prove (c := roots_c) EF Z0 Kr (H := HR) (n := 0) fun (a : HL D roots_c.ts) (_ : roots_c.holds a) =>
  And.intro (Pre.mk (.inr rfl : isM 64)) (rfl : some ((⟨KL⟩ : AV .u32 64), ()) = some (roots_c.ret a))
def start_c : Con D := { ts := [], rt := [.st 13], ret := fun _ => (⟨SL⟩, ()) }
theorem start_ok : start_c.ok Tryz.prog 212 := Con.prove (c := start_c) EF Z0 Kr (H := HR) (n := 0) fun (a : HL D start_c.ts) (_ : start_c.holds a) =>
  And.intro (Pre.mk (.inl rfl : isM 8)) (rfl : some ((⟨SL⟩ : AV .u32 8), ()) = some (start_c.ret a))
end Go.Proofs.YtpbcabanpppfoaaGreat
