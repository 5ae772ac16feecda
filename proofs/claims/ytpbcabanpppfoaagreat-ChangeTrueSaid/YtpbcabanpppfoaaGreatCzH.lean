/- Change: digests: the program's take of a block, and the reference's, walked by reckoning. No condition. -/
import Derived.Test.YtpbcabanpppfoaaGreatCzA
set_option linter.all false
namespace Go.Proofs.YtpbcabanpppfoaaGreat
open Go Go.Gx Go.Vz
set_option maxRecDepth 100000
/-! ### What is reckoned -/
abbrev gi (l : List Int) (i : Nat) : Int := l.getD i 0
def rorP (x : Int) (n : Nat) : Int := bitK .or .u32 (shlK .u32 x ((32 - n : Nat) : Int)) (shrK .u32 x (n : Int))
def xr (a b : Int) : Int := bitK .xor .u32 a b
def ad (a b : Int) : Int := IntKind.wrap .u32 (a + b)
def nd (a b : Int) : Int := bitK .and .u32 a b
def wj (b w : List Int) (t : Nat) : Nat → List Int
  | 0 => w
  | j + 1 => (wj b w t j).set t (bitK .or .u32 (shlK .u32 (gi (wj b w t j) t) 8) (IntKind.wrap .u32 (gi b (4 * t + j))))
def sgm (r : Int → Nat → Int) (x : Int) (p q n : Nat) : Int := xr (xr (r x p) (r x q)) (shrK .u32 x (n : Int))
def w16 (r : Int → Nat → Int) (w : List Int) (a b c d : Nat) : Int := ad (ad (ad (gi w a) (sgm r (gi w b) 7 18 3)) (gi w c)) (sgm r (gi w d) 17 19 10)
def sched (b : List Int) : Nat → List Int
  | 0 => List.replicate 64 0
  | t + 1 => bif Nat.blt t 16 then wj b (sched b t) t 4 else (sched b t).set t (w16 rorP (sched b t) (t - 16) (t - 15) (t - 7) (t - 2))
def bigS (r : Int → Nat → Int) (s k w : List Int) (t : Nat) : Int := ad (ad (ad (ad (gi s 7) (xr (xr (r (gi s 4) 6) (r (gi s 4) 11)) (r (gi s 4) 25))) (xr (nd (gi s 4) (gi s 5)) (nd (bitK .xor .u32 IntKind.u32.max (gi s 4)) (gi s 6)))) (gi k t)) (gi w t)
def smallS (r : Int → Nat → Int) (s : List Int) : Int := ad (xr (xr (r (gi s 0) 2) (r (gi s 0) 13)) (r (gi s 0) 22)) (xr (xr (nd (gi s 0) (gi s 1)) (nd (gi s 0) (gi s 2))) (nd (gi s 1) (gi s 2)))
def stp (r : Int → Nat → Int) (s k w : List Int) : Nat → List Int
  | 0 => [gi s 0, gi s 1, gi s 2, gi s 3, gi s 4, gi s 5, gi s 6, gi s 7]
  | t + 1 => let x := stp r s k w t
    [ad (bigS r x k w t) (smallS r x), gi x 0, gi x 1, gi x 2, ad (gi x 3) (bigS r x k w t), gi x 4, gi x 5, gi x 6]
def addS (s x : List Int) : Nat → List Int
  | 0 => s
  | i + 1 => (addS s x i).set i (ad (gi (addS s x i) i) (gi x i))
def takeF (s b k : List Int) : List Int := addS s (stp rorP s k (sched b 64) 64) 8
/-! ### 179 sha.take -/
abbrev HashC : List CS := [.dat .bool, .dat (.ik .u32), .dat (.ik .i32), .dat (.ik .u32), .dat (.st 15), .dat (.st 13), .dat (.st 14), .dat .int, .dat .int]
def sch_h (b : List Int) (w : Nat) : LH D := ⟨Nat, [26], fun t => [.i .i64 (t : Nat)], fun t => t ≤ 64, fun t => 64 - t, [], fun _ => [], [w], fun t => [.box 217 [.vec .u32 64 (sched b t)]]⟩
def inn_h (b : List Int) (t : Nat) (w : Nat) : LH D := ⟨Nat, [40], fun j => [.i .i64 (j : Nat)], fun j => j ≤ 4, fun j => 4 - j, [], fun _ => [], [w], fun j => [.box 217 [.vec .u32 64 (wj b (sched b t) t j)]]⟩
def rnd_h (s k w : List Int) : LH D := ⟨Nat, [108, 13, 14, 15, 16, 17, 18, 19, 20], fun t => [.i .i64 (t : Nat), .i .u32 (gi (stp rorP s k w t) 0), .i .u32 (gi (stp rorP s k w t) 1), .i .u32 (gi (stp rorP s k w t) 2), .i .u32 (gi (stp rorP s k w t) 3), .i .u32 (gi (stp rorP s k w t) 4), .i .u32 (gi (stp rorP s k w t) 5), .i .u32 (gi (stp rorP s k w t) 6), .i .u32 (gi (stp rorP s k w t) 7)], fun t => t ≤ 64, fun t => 64 - t, [], fun _ => [], [], fun _ => []⟩
def tkH (s b k : List Int) (w : Nat) : Nat → Nat → Option (Hint D) := fun f i => match f, i with
  | 179, 3 => some (.inv (sch_h b w))
  | 179, 7 => some (.dep fun st => .inv (inn_h b (slI st 8).toNat w))
  | 179, 16 => some (.inv (rnd_h s k (sched b 64)))
  | 179, _ => some (.unr 9)
  | _, _ => none
theorem e4 {t : Nat} (h : t < 64) : IntKind.wrap .i64 ((4 : Int) * (t : Int)) = ((4 * t : Nat) : Int) := by rw [IntWalk.i64_in _ (by omega)]; omega
theorem e5 {t : Nat} (h : t < 64) : IntKind.wrap .i64 (IntKind.wrap .i64 ((4 : Int) * (t : Int)) + 4) = ((4 * t + 4 : Nat) : Int) := by rw [e4 h, IntWalk.i64_in _ (by omega)]; omega
theorem at64 {t : Nat} (h : t < 64) : (decide ((0 : Int) ≤ (t : Int)) && decide ((t : Int) < ((64 : Nat) : Int))) = true := by simp; omega
theorem eM {t : Nat} (c : Nat) (h : t < 64) (hc : c ≤ t) : IntKind.wrap .i64 ((t : Int) - (c : Int)) = ((t - c : Nat) : Int) := by rw [IntWalk.i64_in _ (by omega)]; omega
theorem atM {t : Nat} (c : Nat) (h : t < 64) (hc : c ≤ t) : (decide ((0 : Int) ≤ IntKind.wrap .i64 ((t : Int) - (c : Int))) && decide (IntKind.wrap .i64 ((t : Int) - (c : Int)) < ((64 : Nat) : Int))) = true := by rw [eM c h hc]; simp; omega
section
variable (b : List Int) (W : Nat) {t : Nat}
theorem innE : Ent (inn_h b t W) [iv 0] [] [.box 217 [.vec .u32 64 (sched b t)]] := ⟨(0 : Nat), rfl, rfl, rfl, Nat.zero_le _⟩
theorem innR (ht : t < 64) {j : Nat} (hj : j < 4) : Rnd (inn_h b t W) j [iv (IntKind.wrap .i64 ((j : Int) + 1))] [] [.box 217 [.vec .u32 64 ((wj b (sched b t) t j).set t (bitK .or .u32 (shlK .u32 (gi (wj b (sched b t) t j) t) 8) (IntKind.wrap .u32 (gi b (Int.toNat (IntKind.wrap .i64 ((4 : Int) * (t : Int))) + j)))))]] :=
  ⟨(j + 1 : Nat), by rw [wrap1 hj (by decide)]; rfl, rfl, by rw [e4 ht]; rfl, hj, by show 4 - (j + 1) < 4 - j; omega⟩
theorem schR (h3 : t < 16) : Rnd (sch_h b W) t [iv (IntKind.wrap .i64 ((t : Int) + 1))] [] [.box 217 [.vec .u32 64 (wj b (sched b t) t 4)]] :=
  ⟨(t + 1 : Nat), by rw [wrap1 h3 (by decide)]; rfl, rfl, by
    have : Nat.blt t 16 = true := Nat.ble_eq_true_of_le h3
    simp only [sch_h, sched, this, cond_true], by show t + 1 ≤ 64; omega, by show 64 - (t + 1) < 64 - t; omega⟩
theorem schS (ht : t < 64) (h3 : ¬ t < 16) : Rnd (sch_h b W) t [iv (IntKind.wrap .i64 ((t : Int) + 1))] [] [.box 217 [.vec .u32 64 ((sched b t).set t (w16 rorP (sched b t) (Int.toNat (IntKind.wrap .i64 ((t : Int) - 16))) (Int.toNat (IntKind.wrap .i64 ((t : Int) - 15))) (Int.toNat (IntKind.wrap .i64 ((t : Int) - 7))) (Int.toNat (IntKind.wrap .i64 ((t : Int) - 2)))))]] :=
  ⟨(t + 1 : Nat), by rw [wrap1 ht (by decide)]; rfl, rfl, by
    have : Nat.blt t 16 = false := by
      cases h : Nat.blt t 16 with
      | false => rfl
      | true => exact absurd (Nat.le_of_ble_eq_true h) h3
    have e1 := eM 16 ht (by omega)
    have e2 := eM 15 ht (by omega)
    have e3 := eM 7 ht (by omega)
    have e4 := eM 2 ht (by omega)
    simp only [Int.cast_ofNat_Int] at e1 e2 e3 e4
    rw [e1, e2, e3, e4]
    simp only [sch_h, sched, this, cond_false, Int.toNat_natCast], by show t + 1 ≤ 64; omega, by show 64 - (t + 1) < 64 - t; omega⟩
end
theorem rndR (s k w : List Int) {i : Nat} (hi : i < 64) : Rnd (rnd_h s k w) i [iv (IntKind.wrap .i64 ((i : Int) + 1)), .i .u32 (ad (bigS rorP (stp rorP s k w i) k w i) (smallS rorP (stp rorP s k w i))), .i .u32 (gi (stp rorP s k w i) 0), .i .u32 (gi (stp rorP s k w i) 1), .i .u32 (gi (stp rorP s k w i) 2), .i .u32 (ad (gi (stp rorP s k w i) 3) (bigS rorP (stp rorP s k w i) k w i)), .i .u32 (gi (stp rorP s k w i) 4), .i .u32 (gi (stp rorP s k w i) 5), .i .u32 (gi (stp rorP s k w i) 6)] [] [] :=
  ⟨(i + 1 : Nat), by rw [wrap1 hi (by decide)]; rfl, rfl, rfl, by show i + 1 ≤ 64; omega, by show 64 - (i + 1) < 64 - i; omega⟩
abbrev A4 (t : Nat) : Int := IntKind.wrap .i64 ((4 : Int) * (t : Int))
def take2_c : OCon D := { ash := [.dat (.st 13), .nm 0, .nm 1 4], es := [.box 175 [.dat (.st 14)], .box 261 HashC], rsh := [.dat (.st 13)], pes := [.box 175 [.dat (.st 14)], .box 261 HashC], post := fun a e => ((⟨takeF a.1.l e.1.1.l e.2.1.2.2.2.2.1.l⟩, ()), e) }
theorem take2_ok : take2_c.ok EF Tryz.prog 179 := OCon.prove (c := take2_c) EF Z0 K0 (H := fun a e => tkH a.1.l e.1.1.l e.2.1.2.2.2.2.1.l 5) (n := 3) fun (a : CL D take2_c.ash) (e : EL D take2_c.es) (_ : take2_c.holds a e) =>
  And.intro (⟨(0 : Nat), rfl, rfl, rfl, Nat.zero_le _⟩ : Ent (sch_h e.1.1.l 5) [iv 0] [] [.box 217 [.vec .u32 64 (List.replicate 64 0)]])
  fun (t : Nat) (h1 : t ≤ 64) =>
  bq (decide ((t : Int) < 64)) (fun h2 => have ht : t < 64 := by have := of_decide_eq_true h2; omega
    bq (decide ((t : Int) < 16)) (fun h3 => have h16 : t < 16 := by have := of_decide_eq_true h3; omega
      brN (c := decide (0 ≤ A4 t) && (decide (A4 t ≤ IntKind.wrap .i64 (A4 t + 4)) && (decide (IntKind.wrap .i64 (A4 t + 4) ≤ ((64 : Nat) : Int)) && decide (A4 t < ((64 : Nat) : Int))))) (by unfold A4; rw [e5 ht, e4 ht]; simp; omega) (
      And.intro (innE e.1.1.l 5 (t := t)) fun (j : Nat) (h4 : j ≤ 4) =>
      bq (decide ((j : Int) < ((Int.toNat (IntKind.wrap .i64 (A4 t + 4)) - Int.toNat (A4 t) : Nat) : Int))) (fun h5 => have hj : j < 4 := by unfold A4 at h5; rw [e5 ht, e4 ht] at h5; simp at h5; omega
        brN (c := decide (0 ≤ (j : Int)) && decide ((j : Int) < ((Int.toNat (IntKind.wrap .i64 (A4 t + 4)) - Int.toNat (A4 t) : Nat) : Int))) (by rw [h5]; simp) (
        brN (c := decide (0 ≤ (t : Int)) && decide ((t : Int) < ((64 : Nat) : Int))) (at64 ht) (
        brN (c := decide (0 ≤ (t : Int)) && decide ((t : Int) < ((64 : Nat) : Int))) (at64 ht) (
        innR e.1.1.l 5 ht hj))))
      (fun h5 => have hj : j = 4 := by unfold A4 at h5; rw [e5 ht, e4 ht] at h5; simp at h5; omega
        (by rw [hj]; exact schR _ _ h16 : Rnd (sch_h e.1.1.l 5) t [iv (IntKind.wrap .i64 ((t : Int) + 1))] [] [.box 217 [.vec .u32 64 (wj e.1.1.l (sched e.1.1.l t) t j)]]))))
    (fun h3 => have h16 : ¬ t < 16 := by have := of_decide_eq_false h3; omega
      brN (c := decide (0 ≤ IntKind.wrap .i64 ((t : Int) - 15)) && decide (IntKind.wrap .i64 ((t : Int) - 15) < ((64 : Nat) : Int))) (atM 15 ht (by omega)) (
      brN (c := decide (0 ≤ IntKind.wrap .i64 ((t : Int) - 2)) && decide (IntKind.wrap .i64 ((t : Int) - 2) < ((64 : Nat) : Int))) (atM 2 ht (by omega)) (
      brN (c := decide (0 ≤ IntKind.wrap .i64 ((t : Int) - 16)) && decide (IntKind.wrap .i64 ((t : Int) - 16) < ((64 : Nat) : Int))) (atM 16 ht (by omega)) (
      brN (c := decide (0 ≤ IntKind.wrap .i64 ((t : Int) - 7)) && decide (IntKind.wrap .i64 ((t : Int) - 7) < ((64 : Nat) : Int))) (atM 7 ht (by omega)) (
      brN (c := decide (0 ≤ (t : Int)) && decide ((t : Int) < ((64 : Nat) : Int))) (at64 ht) (
      schS e.1.1.l 5 ht h16)))))))
  (fun h2 => have ht : t = 64 := by simp at h2; omega
    And.intro (⟨(0 : Nat), rfl, rfl, rfl, Nat.zero_le _⟩ : Ent (rnd_h a.1.l e.2.1.2.2.2.2.1.l (sched e.1.1.l 64)) [iv 0, .i .u32 (gi a.1.l 0), .i .u32 (gi a.1.l 1), .i .u32 (gi a.1.l 2), .i .u32 (gi a.1.l 3), .i .u32 (gi a.1.l 4), .i .u32 (gi a.1.l 5), .i .u32 (gi a.1.l 6), .i .u32 (gi a.1.l 7)] [] [])
    fun (i : Nat) (h3 : i ≤ 64) =>
    bq (decide ((i : Int) < 64)) (fun h4 => have hi : i < 64 := by have := of_decide_eq_true h4; omega
      brN (c := decide (0 ≤ (i : Int)) && decide ((i : Int) < ((64 : Nat) : Int))) (at64 hi) (
      brN (c := decide (0 ≤ (i : Int)) && decide ((i : Int) < ((64 : Nat) : Int))) (at64 hi) (
      (by rw [ht]; exact rndR a.1.l e.2.1.2.2.2.2.1.l (sched e.1.1.l 64) hi : Rnd (rnd_h a.1.l e.2.1.2.2.2.2.1.l (sched e.1.1.l 64)) i [iv (IntKind.wrap .i64 ((i : Int) + 1)), .i .u32 (ad (bigS rorP (stp rorP a.1.l e.2.1.2.2.2.2.1.l (sched e.1.1.l 64) i) e.2.1.2.2.2.2.1.l (sched e.1.1.l t) i) (smallS rorP (stp rorP a.1.l e.2.1.2.2.2.2.1.l (sched e.1.1.l 64) i))), .i .u32 (gi (stp rorP a.1.l e.2.1.2.2.2.2.1.l (sched e.1.1.l 64) i) 0), .i .u32 (gi (stp rorP a.1.l e.2.1.2.2.2.2.1.l (sched e.1.1.l 64) i) 1), .i .u32 (gi (stp rorP a.1.l e.2.1.2.2.2.2.1.l (sched e.1.1.l 64) i) 2), .i .u32 (ad (gi (stp rorP a.1.l e.2.1.2.2.2.2.1.l (sched e.1.1.l 64) i) 3) (bigS rorP (stp rorP a.1.l e.2.1.2.2.2.2.1.l (sched e.1.1.l 64) i) e.2.1.2.2.2.2.1.l (sched e.1.1.l t) i)), .i .u32 (gi (stp rorP a.1.l e.2.1.2.2.2.2.1.l (sched e.1.1.l 64) i) 4), .i .u32 (gi (stp rorP a.1.l e.2.1.2.2.2.2.1.l (sched e.1.1.l 64) i) 5), .i .u32 (gi (stp rorP a.1.l e.2.1.2.2.2.2.1.l (sched e.1.1.l 64) i) 6)] [] []))))
    (fun h4 => have hi : i = 64 := by simp at h4; omega
      (by rw [hi]; rfl : some (((⟨addS a.1.l (stp rorP a.1.l e.2.1.2.2.2.2.1.l (sched e.1.1.l 64) i) 8⟩ : AV .u32 8), ()), e) = some (take2_c.post a e))))
def take1_c : OCon D := { ash := [.dat (.st 13), .nm 0 76, .nm 0 4], es := [.box 261 HashC], rsh := [.dat (.st 13)], pes := [.box 261 HashC], post := fun a e => ((⟨takeF a.1.l e.1.2.2.2.2.2.2.1.l e.1.2.2.2.2.1.l⟩, ()), e) }
theorem take1_ok : take1_c.ok EF Tryz.prog 179 := OCon.prove (c := take1_c) EF Z0 K0 (H := fun a e => tkH a.1.l e.1.2.2.2.2.2.2.1.l e.1.2.2.2.2.1.l 4) (n := 3) fun (a : CL D take1_c.ash) (e : EL D take1_c.es) (_ : take1_c.holds a e) =>
  And.intro (⟨(0 : Nat), rfl, rfl, rfl, Nat.zero_le _⟩ : Ent (sch_h e.1.2.2.2.2.2.2.1.l 4) [iv 0] [] [.box 217 [.vec .u32 64 (List.replicate 64 0)]])
  fun (t : Nat) (h1 : t ≤ 64) =>
  bq (decide ((t : Int) < 64)) (fun h2 => have ht : t < 64 := by have := of_decide_eq_true h2; omega
    bq (decide ((t : Int) < 16)) (fun h3 => have h16 : t < 16 := by have := of_decide_eq_true h3; omega
      brN (c := decide (0 ≤ A4 t) && (decide (A4 t ≤ IntKind.wrap .i64 (A4 t + 4)) && (decide (IntKind.wrap .i64 (A4 t + 4) ≤ ((64 : Nat) : Int)) && decide (A4 t < ((64 : Nat) : Int))))) (by unfold A4; rw [e5 ht, e4 ht]; simp; omega) (
      And.intro (innE e.1.2.2.2.2.2.2.1.l 4 (t := t)) fun (j : Nat) (h4 : j ≤ 4) =>
      bq (decide ((j : Int) < ((Int.toNat (IntKind.wrap .i64 (A4 t + 4)) - Int.toNat (A4 t) : Nat) : Int))) (fun h5 => have hj : j < 4 := by unfold A4 at h5; rw [e5 ht, e4 ht] at h5; simp at h5; omega
        brN (c := decide (0 ≤ (j : Int)) && decide ((j : Int) < ((Int.toNat (IntKind.wrap .i64 (A4 t + 4)) - Int.toNat (A4 t) : Nat) : Int))) (by rw [h5]; simp) (
        brN (c := decide (0 ≤ (t : Int)) && decide ((t : Int) < ((64 : Nat) : Int))) (at64 ht) (
        brN (c := decide (0 ≤ (t : Int)) && decide ((t : Int) < ((64 : Nat) : Int))) (at64 ht) (
        innR e.1.2.2.2.2.2.2.1.l 4 ht hj))))
      (fun h5 => have hj : j = 4 := by unfold A4 at h5; rw [e5 ht, e4 ht] at h5; simp at h5; omega
        (by rw [hj]; exact schR _ _ h16 : Rnd (sch_h e.1.2.2.2.2.2.2.1.l 4) t [iv (IntKind.wrap .i64 ((t : Int) + 1))] [] [.box 217 [.vec .u32 64 (wj e.1.2.2.2.2.2.2.1.l (sched e.1.2.2.2.2.2.2.1.l t) t j)]]))))
    (fun h3 => have h16 : ¬ t < 16 := by have := of_decide_eq_false h3; omega
      brN (c := decide (0 ≤ IntKind.wrap .i64 ((t : Int) - 15)) && decide (IntKind.wrap .i64 ((t : Int) - 15) < ((64 : Nat) : Int))) (atM 15 ht (by omega)) (
      brN (c := decide (0 ≤ IntKind.wrap .i64 ((t : Int) - 2)) && decide (IntKind.wrap .i64 ((t : Int) - 2) < ((64 : Nat) : Int))) (atM 2 ht (by omega)) (
      brN (c := decide (0 ≤ IntKind.wrap .i64 ((t : Int) - 16)) && decide (IntKind.wrap .i64 ((t : Int) - 16) < ((64 : Nat) : Int))) (atM 16 ht (by omega)) (
      brN (c := decide (0 ≤ IntKind.wrap .i64 ((t : Int) - 7)) && decide (IntKind.wrap .i64 ((t : Int) - 7) < ((64 : Nat) : Int))) (atM 7 ht (by omega)) (
      brN (c := decide (0 ≤ (t : Int)) && decide ((t : Int) < ((64 : Nat) : Int))) (at64 ht) (
      schS e.1.2.2.2.2.2.2.1.l 4 ht h16)))))))
  (fun h2 => have ht : t = 64 := by simp at h2; omega
    And.intro (⟨(0 : Nat), rfl, rfl, rfl, Nat.zero_le _⟩ : Ent (rnd_h a.1.l e.1.2.2.2.2.1.l (sched e.1.2.2.2.2.2.2.1.l 64)) [iv 0, .i .u32 (gi a.1.l 0), .i .u32 (gi a.1.l 1), .i .u32 (gi a.1.l 2), .i .u32 (gi a.1.l 3), .i .u32 (gi a.1.l 4), .i .u32 (gi a.1.l 5), .i .u32 (gi a.1.l 6), .i .u32 (gi a.1.l 7)] [] [])
    fun (i : Nat) (h3 : i ≤ 64) =>
    bq (decide ((i : Int) < 64)) (fun h4 => have hi : i < 64 := by have := of_decide_eq_true h4; omega
      brN (c := decide (0 ≤ (i : Int)) && decide ((i : Int) < ((64 : Nat) : Int))) (at64 hi) (
      brN (c := decide (0 ≤ (i : Int)) && decide ((i : Int) < ((64 : Nat) : Int))) (at64 hi) (
      (by rw [ht]; exact rndR a.1.l e.1.2.2.2.2.1.l (sched e.1.2.2.2.2.2.2.1.l 64) hi : Rnd (rnd_h a.1.l e.1.2.2.2.2.1.l (sched e.1.2.2.2.2.2.2.1.l 64)) i [iv (IntKind.wrap .i64 ((i : Int) + 1)), .i .u32 (ad (bigS rorP (stp rorP a.1.l e.1.2.2.2.2.1.l (sched e.1.2.2.2.2.2.2.1.l 64) i) e.1.2.2.2.2.1.l (sched e.1.2.2.2.2.2.2.1.l t) i) (smallS rorP (stp rorP a.1.l e.1.2.2.2.2.1.l (sched e.1.2.2.2.2.2.2.1.l 64) i))), .i .u32 (gi (stp rorP a.1.l e.1.2.2.2.2.1.l (sched e.1.2.2.2.2.2.2.1.l 64) i) 0), .i .u32 (gi (stp rorP a.1.l e.1.2.2.2.2.1.l (sched e.1.2.2.2.2.2.2.1.l 64) i) 1), .i .u32 (gi (stp rorP a.1.l e.1.2.2.2.2.1.l (sched e.1.2.2.2.2.2.2.1.l 64) i) 2), .i .u32 (ad (gi (stp rorP a.1.l e.1.2.2.2.2.1.l (sched e.1.2.2.2.2.2.2.1.l 64) i) 3) (bigS rorP (stp rorP a.1.l e.1.2.2.2.2.1.l (sched e.1.2.2.2.2.2.2.1.l 64) i) e.1.2.2.2.2.1.l (sched e.1.2.2.2.2.2.2.1.l t) i)), .i .u32 (gi (stp rorP a.1.l e.1.2.2.2.2.1.l (sched e.1.2.2.2.2.2.2.1.l 64) i) 4), .i .u32 (gi (stp rorP a.1.l e.1.2.2.2.2.1.l (sched e.1.2.2.2.2.2.2.1.l 64) i) 5), .i .u32 (gi (stp rorP a.1.l e.1.2.2.2.2.1.l (sched e.1.2.2.2.2.2.2.1.l 64) i) 6)] [] []))))
    (fun h4 => have hi : i = 64 := by simp at h4; omega
      (by rw [hi]; rfl : some (((⟨addS a.1.l (stp rorP a.1.l e.1.2.2.2.2.1.l (sched e.1.2.2.2.2.2.2.1.l 64) i) 8⟩ : AV .u32 8), ()), e) = some (take1_c.post a e))))
end Go.Proofs.YtpbcabanpppfoaaGreat
