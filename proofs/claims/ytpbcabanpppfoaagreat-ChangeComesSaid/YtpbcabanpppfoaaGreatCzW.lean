/- Change: numbers and fields taken off bytes, walked by reckoning. No condition. -/
import Derived.Test.YtpbcabanpppfoaaGreatCzG
import Derived.Test.YtpbcabanpppfoaaGreatCzN
set_option linter.all false
namespace Go.Proofs.YtpbcabanpppfoaaGreat
open Go Go.Gx Go.Vz
set_option maxRecDepth 100000
abbrev Γb : Nat → Option (Con D) := addC noC 306 clB_c
theorem Kb : Kept EF Tryz.prog Γb noO := K0.c clB_ok
/-! ### 300 bin.TakeNum -/
def foldN (l : List UInt8) : Nat := l.foldl (fun a c => 256 * a + c.toNat) 0
theorem foldN_snoc (l : List UInt8) (c : UInt8) : foldN (l ++ [c]) = 256 * foldN l + c.toNat := by unfold foldN; rw [List.foldl_append]; rfl
theorem fold_lt : ∀ (l : List UInt8) (a n : Nat), a < n → l.foldl (fun a c => 256 * a + c.toNat) a < n * 256 ^ l.length
  | [], a, n, h => by simpa using h
  | c :: l, a, n, h => by
    have hc := c.toNat_lt
    have := fold_lt l (256 * a + c.toNat) (256 * n) (by omega)
    rw [List.foldl_cons, List.length_cons, Nat.pow_succ, Nat.mul_comm (256 ^ l.length), ← Nat.mul_assoc, Nat.mul_comm n]
    exact this
theorem foldN_lt6 {l : List UInt8} (h : l.length ≤ 6) : foldN l < 281474976710656 := by
  have := fold_lt l 0 1 (by omega)
  rw [Nat.one_mul] at this
  refine Nat.lt_of_lt_of_le this ?_
  exact Nat.le_trans (Nat.pow_le_pow_right (by omega) h) (by decide)
theorem or64 {x c : Nat} (hx : x < 281474976710656) (hc : c < 256) : bitK .or .i64 (shlK .i64 (x : Int) 8) (IntKind.wrap .i64 (c : Int)) = ((256 * x + c : Nat) : Int) := by
  have e1 : shlK .i64 (x : Int) 8 = ((256 * x : Nat) : Int) := by
    show IntKind.wrap .i64 ((x : Int) * 2 ^ 8) = _
    rw [IntWalk.i64_in _ (by omega)]; omega
  have e2 : IntKind.wrap .i64 (c : Int) = (c : Int) := wrap_i64_nat (by omega)
  rw [e1, e2]
  show IntKind.wrap .i64 (((BitVec.ofInt 64 ((256 * x : Nat) : Int) ||| BitVec.ofInt 64 (c : Int)).toNat : Nat) : Int) = _
  rw [BitVec.toNat_or, BitVec.ofInt_natCast, BitVec.ofInt_natCast, BitVec.toNat_ofNat, BitVec.toNat_ofNat, Nat.mod_eq_of_lt (by omega), Nat.mod_eq_of_lt (by omega)]
  have : 2 ^ 8 * x + c = 2 ^ 8 * x ||| c := Nat.two_pow_add_eq_or_of_lt (by omega) x
  rw [show 256 * x = 2 ^ 8 * x by omega, ← this]
  exact wrap_i64_nat (by omega)
abbrev hdU (l : List UInt8) : UInt8 := l.getD 0 0
abbrev tlU (l : List UInt8) : List UInt8 := l.drop 1
def tkN (l : List UInt8) : Int × List UInt8 × Int :=
  bif Nat.beq l.length 0 then (0, [], 3) else bif decide (7 < (hdU l).toNat) then (0, [], 4) else bif decide ((tlU l).length < (hdU l).toNat) then (0, [], 3) else
  bif decide (0 < (hdU l).toNat) && decide (((tlU l).getD 0 0).toNat = 0) then (0, [], 4) else bif decide (9007199254740991 < foldN ((tlU l).take (hdU l).toNat)) then (0, [], 9) else
  ((foldN ((tlU l).take (hdU l).toNat) : Nat), (tlU l).drop (hdU l).toNat, 0)
abbrev R3 (x : Int × List UInt8 × Int) : HL D [.int, .sl .u8, .int] := (x.1, x.2.1, x.2.2, ())
def tkN_c : Con D := { ts := [.sl .u8], rt := [.int, .sl .u8, .int], pre := some (fun a => a.1.length ≤ 1000000), ret := fun a => R3 (tkN a.1) }
abbrev T1 (l : List UInt8) : List UInt8 := List.drop 1 (List.take l.length l)
abbrev iB (l : List UInt8) : Int := IntKind.wrap .i64 ((hdU l).toNat : Int)
abbrev S1 (l : List UInt8) : List UInt8 := List.drop 0 (List.take (Int.toNat (iB l)) (T1 l))
def tk_h (l : List UInt8) : LH D := ⟨Nat, [38, 2], fun i => [.i .i64 (i : Nat), .i .i64 (foldN (l.take i))], fun i => i ≤ l.length, fun i => l.length - i, [], fun _ => [], [], fun _ => []⟩
theorem T1_eq (l : List UInt8) : T1 l = tlU l := by unfold T1; rw [List.take_length]
theorem iB_eq (l : List UInt8) : iB l = ((hdU l).toNat : Int) := wrap_i64_nat (by have := (hdU l).toNat_lt; omega)
theorem S1_eq (l : List UInt8) : S1 l = (tlU l).take (hdU l).toNat := by unfold S1; rw [iB_eq, T1_eq, List.drop_zero, Int.toNat_natCast]
theorem tkRnd {l : List UInt8} {i : Nat} (hl : l.length ≤ 7) (hi : i < l.length) : Rnd (tk_h l) i [iv (IntKind.wrap .i64 ((i : Int) + 1)), iv (bitK .or .i64 (shlK .i64 (foldN (l.take i) : Nat) 8) (IntKind.wrap .i64 ((l.getD i 0).toNat : Int)))] [] [] :=
  ⟨(i + 1 : Nat), by
    rw [wrap1 hi (by unfold maxL; omega), or64 (foldN_lt6 (by rw [List.length_take]; omega)) (l.getD i 0).toNat_lt, ← foldN_snoc]
    rw [show l.take i ++ [l.getD i 0] = l.take (i + 1) by rw [List.take_succ, List.getElem?_eq_getElem hi, List.getD_eq_getElem?_getD, List.getElem?_eq_getElem hi]; rfl]
    rfl, rfl, rfl, hi, by show l.length - (i + 1) < l.length - i; omega⟩
theorem beqF2 {a b : Nat} (h : a ≠ b) : Nat.beq a b = false := by
  cases e : Nat.beq a b with
  | false => rfl
  | true => exact absurd (Nat.eq_of_beq_eq_true e) h
section
variable {l : List UInt8} (h2 : (((l.length : Nat) : Int) == 0) = false)
include h2
theorem tk2 : Nat.beq l.length 0 = false := beqF2 fun e => by rw [e] at h2; cases h2
variable (h3 : decide ((7 : Int) < iB l) = false)
include h3
theorem tk3 : decide (7 < (hdU l).toNat) = false := by rw [iB_eq] at h3; simp at h3 ⊢; omega
variable (h5 : decide (((T1 l).length : Int) < iB l) = false)
include h5
theorem tk5 : decide ((tlU l).length < (hdU l).toNat) = false := by rw [iB_eq, T1_eq] at h5; simp at h5 ⊢; omega
end
theorem tkN_ok : tkN_c.ok Tryz.prog 300 := Con.prove (c := tkN_c) EF Z0 Kb (H := fun a f r => match f, r with | 300, 11 => some (.inv (tk_h (S1 a.1))) | _, _ => none) (n := 2) fun (a : HL D tkN_c.ts) (hp : tkN_c.holds a) =>
  have hp : a.1.length ≤ 1000000 := hp
  brL fun _ : a.1.length ≤ maxL =>
  bq (((a.1.length : Nat) : Int) == 0) (fun h2 => (by have h2 : a.1.length = 0 := by simpa using h2
                                                      show some (_, _) = some (R3 (tkN a.1)); unfold tkN; rw [h2]; rfl : some ((0 : Int), ([] : List UInt8), (3 : Int), ()) = some (tkN_c.ret a)))
  (fun h2 => have h2' : 0 < a.1.length := Nat.pos_of_ne_zero fun e => by rw [e] at h2; cases h2
  brN (c := decide ((0 : Int) ≤ 0) && decide ((0 : Int) < (a.1.length : Int))) (by simp; omega) (
  brN (c := decide ((0 : Int) ≤ 1) && (decide ((1 : Int) ≤ (a.1.length : Int)) && decide ((a.1.length : Int) ≤ (a.1.length : Int)))) (by simp; omega) (
  bq (decide ((7 : Int) < iB a.1)) (fun h3 => (by have h3 : decide (7 < (hdU a.1).toNat) = true := by rw [iB_eq] at h3; simp at h3 ⊢; omega
                                                  show some (_, _) = some (R3 (tkN a.1)); unfold tkN; rw [tk2 h2, h3]; rfl : some ((0 : Int), ([] : List UInt8), (4 : Int), ()) = some (tkN_c.ret a)))
  (fun h3 =>
  brL fun _ : (T1 a.1).length ≤ maxL =>
  bq (decide (((T1 a.1).length : Int) < iB a.1)) (fun h5 => (by have h5 : decide ((tlU a.1).length < (hdU a.1).toNat) = true := by rw [iB_eq, T1_eq] at h5; simp at h5 ⊢; omega
                                                                show some (_, _) = some (R3 (tkN a.1)); unfold tkN; rw [tk2 h2, tk3 h2 h3, h5]; rfl : some ((0 : Int), ([] : List UInt8), (3 : Int), ()) = some (tkN_c.ret a)))
  (fun h5 =>
  have q3 : (hdU a.1).toNat ≤ 7 := Nat.le_of_not_lt (of_decide_eq_false (tk3 h2 h3))
  have q5 : (hdU a.1).toNat ≤ (tlU a.1).length := Nat.le_of_not_lt (of_decide_eq_false (tk5 h2 h3 h5))
  have hs : (S1 a.1).length ≤ 7 := by rw [S1_eq, List.length_take]; omega
  have tl := fun (h6 : (decide (0 < (hdU a.1).toNat) && decide (((tlU a.1).getD 0 0).toNat = 0)) = false) =>
    brN (c := decide ((0 : Int) ≤ 0) && (decide ((0 : Int) ≤ iB a.1) && decide (iB a.1 ≤ ((T1 a.1).length : Int)))) (by rw [iB_eq, T1_eq]; simp at q5 ⊢; omega) (
    brL fun _ : (S1 a.1).length ≤ maxL =>
    And.intro (⟨(0 : Nat), rfl, rfl, rfl, Nat.zero_le _⟩ : Ent (tk_h (S1 a.1)) [iv 0, iv 0] [] [])
    fun (i : Nat) (hI : i ≤ (S1 a.1).length) =>
    bq (decide ((i : Int) < ((S1 a.1).length : Int))) (fun h7 => have hi : i < (S1 a.1).length := by have := of_decide_eq_true h7; omega
      brN (c := decide ((0 : Int) ≤ (i : Int)) && decide ((i : Int) < ((S1 a.1).length : Int))) (by simp only [Bool.and_eq_true, decide_eq_true_eq]; omega) (
      tkRnd hs hi))
    (fun h7 => have hi : i = (S1 a.1).length := by have := of_decide_eq_false h7; omega
      have ef : foldN ((S1 a.1).take i) = foldN ((tlU a.1).take (hdU a.1).toNat) := by rw [hi, List.take_length, S1_eq]
      bq (decide ((9007199254740991 : Int) < (foldN ((S1 a.1).take i) : Nat))) (fun h8 => (by
          have h8 : decide (9007199254740991 < foldN ((tlU a.1).take (hdU a.1).toNat)) = true := by rw [ef] at h8; simp only [decide_eq_true_eq] at h8 ⊢; omega
          show some (_, _) = some (R3 (tkN a.1)); unfold tkN; rw [tk2 h2, tk3 h2 h3, tk5 h2 h3 h5, h6, h8]; rfl : some ((0 : Int), ([] : List UInt8), (9 : Int), ()) = some (tkN_c.ret a)))
      (fun h8 =>
      brN (c := decide ((0 : Int) ≤ iB a.1) && (decide (iB a.1 ≤ ((T1 a.1).length : Int)) && decide (((T1 a.1).length : Int) ≤ ((T1 a.1).length : Int)))) (by rw [iB_eq, T1_eq]; simp at q5 ⊢; omega) (
      And.intro (Pre.mk (by show (List.drop _ (List.take _ (T1 a.1))).length ≤ 1000000; rw [T1_eq]; simp; omega) : Pre ((List.drop (Int.toNat (iB a.1)) (List.take (T1 a.1).length (T1 a.1))).length ≤ 1000000)) (
      (by
        have h8 : decide (9007199254740991 < foldN ((tlU a.1).take (hdU a.1).toNat)) = false := by rw [ef] at h8; simp only [decide_eq_false_iff_not] at h8 ⊢; omega
        show some (_, _) = some (R3 (tkN a.1)); unfold tkN; rw [tk2 h2, tk3 h2 h3, tk5 h2 h3 h5, h6, h8, ef, List.take_length, T1_eq, iB_eq]; rfl :
        some (((foldN ((S1 a.1).take i) : Nat) : Int), List.drop (Int.toNat (iB a.1)) (List.take (T1 a.1).length (T1 a.1)), (0 : Int), ()) = some (tkN_c.ret a)))))))
  bq (decide ((0 : Int) < iB a.1)) (fun h6 =>
    have p6 : 0 < (hdU a.1).toNat := by rw [iB_eq] at h6; simp at h6 ⊢; omega
    brN (c := decide ((0 : Int) ≤ 0) && decide ((0 : Int) < ((T1 a.1).length : Int))) (by rw [T1_eq]; simp at q5 p6 ⊢; omega) (
    bq (((((T1 a.1).getD 0 0).toNat : Nat) : Int) == 0) (fun h7 => (by
        have h7 : (decide (0 < (hdU a.1).toNat) && decide (((tlU a.1).getD 0 0).toNat = 0)) = true := by
          rw [T1_eq] at h7
          have h7 : ((tlU a.1).getD 0 0).toNat = 0 := by have := eq_of_beq h7; omega
          rw [h7]; simpa using p6
        show some (_, _) = some (R3 (tkN a.1)); unfold tkN; rw [tk2 h2, tk3 h2 h3, tk5 h2 h3 h5, h7]; rfl : some ((0 : Int), ([] : List UInt8), (4 : Int), ()) = some (tkN_c.ret a)))
    (fun h7 => tl (by
        rw [T1_eq] at h7
        have h7 : ¬ ((tlU a.1).getD 0 0).toNat = 0 := fun e => by rw [e] at h7; cases h7
        rw [decide_eq_false h7, Bool.and_false]))))
  (fun h6 => tl (by
    have p6 : ¬ 0 < (hdU a.1).toNat := by rw [iB_eq] at h6; simp at h6 ⊢; omega
    rw [decide_eq_false p6, Bool.false_and])))))))
/-! ### 298 bin.TakeFix -/
def tkF (l : List UInt8) (n : Int) : List UInt8 × List UInt8 × Int := bif decide (n < 0) then ([], [], 2) else bif decide ((l.length : Int) < n) then ([], [], 3) else (l.take n.toNat, l.drop n.toNat, 0)
def tkF_c : Con D := { ts := [.sl .u8, .int], rt := [.sl .u8, .sl .u8, .int], pre := some (fun a => a.1.length ≤ 1000000), ret := fun a => ((tkF a.1 a.2.1).1, (tkF a.1 a.2.1).2.1, (tkF a.1 a.2.1).2.2, ()) }
theorem tkF_ok : tkF_c.ok Tryz.prog 298 := Con.prove (c := tkF_c) EF Z0 Kb (H := H0) (n := 2) fun (a : HL D tkF_c.ts) (hp : tkF_c.holds a) =>
  have hp : a.1.length ≤ 1000000 := hp
  bq (decide (a.2.1 < (0 : Int))) (fun h1 => (by simp only [tkF_c, tkF, h1, cond_true] : some (([] : List UInt8), ([] : List UInt8), (2 : Int), ()) = some (tkF_c.ret a))) (fun h1 =>
  brL fun _ : a.1.length ≤ maxL =>
  bq (decide ((a.1.length : Int) < a.2.1)) (fun h3 => (by simp only [tkF_c, tkF, h1, h3, cond_true, cond_false] : some (([] : List UInt8), ([] : List UInt8), (3 : Int), ()) = some (tkF_c.ret a))) (fun h3 =>
  have g1 : (0 : Int) ≤ a.2.1 := Int.not_lt.1 (of_decide_eq_false h1)
  have g3 : a.2.1 ≤ (a.1.length : Int) := Int.not_lt.1 (of_decide_eq_false h3)
  brN (c := decide ((0 : Int) ≤ (0 : Int)) && (decide ((0 : Int) ≤ a.2.1) && decide (a.2.1 ≤ (a.1.length : Int)))) (by rw [decide_eq_true g1, decide_eq_true g3]; rfl) (
  brN (c := decide ((0 : Int) ≤ a.2.1) && (decide (a.2.1 ≤ (a.1.length : Int)) && decide ((a.1.length : Int) ≤ (a.1.length : Int)))) (by rw [decide_eq_true g1, decide_eq_true g3, decide_eq_true (Int.le_refl _)]; rfl) (
  And.intro (Pre.mk (by rw [List.drop_zero, List.length_take]; exact Nat.le_trans (Nat.min_le_right _ _) hp) : Pre ((List.drop 0 (List.take (Int.toNat a.2.1) a.1)).length ≤ 1000000)) (
  And.intro (Pre.mk (by rw [List.length_drop, List.length_take]; exact Nat.le_trans (Nat.sub_le _ _) (Nat.le_trans (Nat.min_le_right _ _) hp)) : Pre ((List.drop (Int.toNat a.2.1) (List.take a.1.length a.1)).length ≤ 1000000)) (
  (by simp only [tkF_c, tkF, h1, h3, cond_false, List.drop_zero, List.take_length] : some (List.drop 0 (List.take (Int.toNat a.2.1) a.1), List.drop (Int.toNat a.2.1) (List.take a.1.length a.1), (0 : Int), ()) = some (tkF_c.ret a))))))))
end Go.Proofs.YtpbcabanpppfoaaGreat

namespace Go.Proofs.YtpbcabanpppfoaaGreat
open Go Go.Gx Go.Vz
set_option maxRecDepth 100000
def HU {α : Type} : α → Nat → Nat → Option (Hint D) := fun _ _ _ => some (.unr 12)
abbrev Γn := addC noC 286 num_c
theorem Kn : Kept EF Tryz.prog Γn noO := K0.c num_ok
def N (x : Int) : List UInt8 := (num_c.ret (x, ())).1
theorem N_len (x : Int) : (N x).length ≤ 40 := by
  show (num_p (x, ())).1.length ≤ 40
  unfold num_p
  cases decide (x < 0) with
  | true => simp
  | false =>
    cases decide (9007199254740991 < x) with
    | true => simp
    | false =>
      have : (digs x.toNat).length ≤ 8 := digsF_le
      show (numB x.toNat).length ≤ 40
      unfold numB; rw [List.length_cons]; omega
theorem D_len (d : Dig) : d.l.length ≤ 40 := by rw [d.h]; omega
theorem app_ok {xs ys : List UInt8} (k : Nat) (h1 : xs.length ≤ 40 * k) (h2 : ys.length ≤ 40) (hk : k ≤ 10000) : Nat.ble ((xs.length + ys.length) * mulB Tryz.prog 5) maxL = true := by
  rw [mb5]; exact Nat.ble_eq_true_of_le (by unfold maxL; omega)
theorem app_len {xs ys : List UInt8} {k : Nat} (h1 : xs.length ≤ 40 * k) (h2 : ys.length ≤ 40) : (xs ++ ys).length ≤ 40 * (k + 1) := by rw [List.length_append]; omega
/-! ### 83 note.Change -/
def markB (m : Mark) : List UInt8 := N m.seq ++ m.dig.l
def standB (s : Stand) : List UInt8 := N s.seq ++ (s.dig.l ++ N s.view)
def chBytes (c : Change) : List UInt8 := N c.node ++ (N c.view ++ (N c.low ++ (N (c.marks.length : Nat) ++ (c.marks.flatMap markB ++ (N (c.p.length : Nat) ++ (c.p.flatMap standB ++ (N (c.q.length : Nat) ++ c.q.flatMap standB)))))))
section
variable (n v : Int) (b : UInt8)
def w1 : List UInt8 := [] ++ N n
def w2 : List UInt8 := w1 n ++ N v
def w3 : List UInt8 := w2 n v ++ N 0
def w4 : List UInt8 := w3 n v ++ N (1 : Nat)
def w5 : List UInt8 := w4 n v ++ N 0
def w6 : List UInt8 := w5 n v ++ (dig1 9).l
def w7 : List UInt8 := w6 n v ++ N (0 : Nat)
def w8 : List UInt8 := w7 n v ++ N (1 : Nat)
def w9 : List UInt8 := w8 n v ++ N 1
def w10 : List UInt8 := w9 n v ++ (dig2 b 1).l
def w11 : List UInt8 := w10 n v b ++ N 0
theorem w_eq : w11 n v b = chBytes (says n v b) := by
  simp [w11, w10, w9, w8, w7, w6, w5, w4, w3, w2, w1, chBytes, says, markB, standB, List.append_assoc]
theorem l1 : (w1 n).length ≤ 40 * 1 := app_len (k := 0) (Nat.le_refl _) (N_len _)
theorem l2 : (w2 n v).length ≤ 40 * 2 := app_len (l1 n) (N_len _)
theorem l3 : (w3 n v).length ≤ 40 * 3 := app_len (l2 n v) (N_len _)
theorem l4 : (w4 n v).length ≤ 40 * 4 := app_len (l3 n v) (N_len _)
theorem l5 : (w5 n v).length ≤ 40 * 5 := app_len (l4 n v) (N_len _)
theorem l6 : (w6 n v).length ≤ 40 * 6 := app_len (l5 n v) (D_len _)
theorem l7 : (w7 n v).length ≤ 40 * 7 := app_len (l6 n v) (N_len _)
theorem l8 : (w8 n v).length ≤ 40 * 8 := app_len (l7 n v) (N_len _)
theorem l9 : (w9 n v).length ≤ 40 * 9 := app_len (l8 n v) (N_len _)
theorem l10 : (w10 n v b).length ≤ 40 * 10 := app_len (l9 n v) (D_len _)
theorem l11 : (w11 n v b).length ≤ 40 * 11 := app_len (l10 n v b) (N_len _)
end
def chOk (i : Int × Int × UInt8) : Prop := 1 ≤ i.1 ∧ i.1 ≤ 28 ∧ 1 ≤ i.2.1 ∧ i.2.1 ≤ 255
def chg_c : Con D := { ts := [.st 3], rt := [.sl .u8, .int], pre := some (fun a => ∃ i : Int × Int × UInt8, a = (says i.1 i.2.1 i.2.2, ()) ∧ chOk i), ret := fun a => (chBytes a.1, 0, ()) }
abbrev seenQ (b : UInt8) : Int := Option.getD (mgetT (E := D) (.st 1) .int (mputT (E := D) (.st 1) .int (mputT (E := D) (.st 1) .int [] ⟨1, dig2 b 1⟩ (Option.getD (mgetT (E := D) (.st 1) .int [] ⟨1, dig2 b 1⟩) (0 : Int))) ⟨1, dig2 b 1⟩ (IntKind.wrap .i64 (Option.getD (mgetT (E := D) (.st 1) .int [] ⟨1, dig2 b 1⟩) (0 : Int) + 1))) ⟨1, dig2 b 1⟩) 0
theorem seenQ_eq (b : UInt8) : seenQ b = 1 := by
  simp [seenQ, mgetT, mputT, mget, mput]; decide
abbrev seenP (b : UInt8) : Int := Option.getD (mgetT (E := D) (.st 1) .int (mputT (E := D) (.st 1) .int (mputT (E := D) (.st 1) .int [] ⟨1, dig2 b 1⟩ (Option.getD (mgetT (E := D) (.st 1) .int [] ⟨1, dig2 b 1⟩) (0 : Int))) ⟨1, dig2 b 1⟩ (IntKind.wrap .i64 (Option.getD (mgetT (E := D) (.st 1) .int (mputT (E := D) (.st 1) .int [] ⟨1, dig2 b 1⟩ (Option.getD (mgetT (E := D) (.st 1) .int [] ⟨1, dig2 b 1⟩) (0 : Int))) ⟨1, dig2 b 1⟩) (0 : Int) + 1))) ⟨1, dig2 b 1⟩) 0
theorem seenP_eq (b : UInt8) : seenP b = 1 := by
  simp [seenP, mgetT, mputT, mget, mput]; decide
theorem chg_ok : chg_c.ok Tryz.prog 83 := Con.proveS (c := chg_c) EF Z0 Kn (fun i : Int × Int × UInt8 => (says i.1 i.2.1 i.2.2, ())) chOk (fun a h => h) (H := HU) (n := 6) fun (i : Int × Int × UInt8) (hq : chOk i) =>
  bq (decide ((1 : Int) ≤ i.1)) (fun h1 => bq (!decide (i.1 ≤ (28 : Int))) (fun h2 => (by have := hq.2.1; simp [this] at h2 : some ([], 2, ()) = some (chg_c.ret (says i.1 i.2.1 i.2.2, ()))))
  (fun _ => bq (decide ((1 : Int) ≤ i.2.1)) (fun h3 => bq (!decide (i.2.1 ≤ (1048576 : Int))) (fun h4 => (by have := hq.2.2.2; simp at h4; omega : some ([], 2, ()) = some (chg_c.ret (says i.1 i.2.1 i.2.2, ()))))
  (fun _ =>
  have tl :=
  brN (c := Nat.ble ((List.length ([] : List UInt8) + (N i.1).length) * mulB Tryz.prog 5) maxL) (app_ok 0 (Nat.le_refl _) (N_len _) (by omega)) (
  brN (c := Nat.ble (((w1 i.1).length + (N i.2.1).length) * mulB Tryz.prog 5) maxL) (app_ok 1 (l1 _) (N_len _) (by omega)) (
  brN (c := Nat.ble (((w2 i.1 i.2.1).length + (N 0).length) * mulB Tryz.prog 5) maxL) (app_ok 2 (l2 _ _) (N_len _) (by omega)) (
  brN (c := Nat.ble (((w3 i.1 i.2.1).length + (N (1 : Nat)).length) * mulB Tryz.prog 5) maxL) (app_ok 3 (l3 _ _) (N_len _) (by omega)) (
  brN (c := Nat.ble (((w4 i.1 i.2.1).length + (N 0).length) * mulB Tryz.prog 5) maxL) (app_ok 4 (l4 _ _) (N_len _) (by omega)) (
  brN (c := Nat.ble (((w5 i.1 i.2.1).length + (dig1 9).l.length) * mulB Tryz.prog 5) maxL) (app_ok 5 (l5 _ _) (D_len _) (by omega)) (
  brN (c := Nat.ble (((w6 i.1 i.2.1).length + (N (0 : Nat)).length) * mulB Tryz.prog 5) maxL) (app_ok 6 (l6 _ _) (N_len _) (by omega)) (
  brN (c := Nat.ble (((w7 i.1 i.2.1).length + (N (1 : Nat)).length) * mulB Tryz.prog 5) maxL) (app_ok 7 (l7 _ _) (N_len _) (by omega)) (
  brN (c := Nat.ble (((w8 i.1 i.2.1).length + (N 1).length) * mulB Tryz.prog 5) maxL) (app_ok 8 (l8 _ _) (N_len _) (by omega)) (
  brN (c := Nat.ble (((w9 i.1 i.2.1).length + (dig2 i.2.2 1).l.length) * mulB Tryz.prog 5) maxL) (app_ok 9 (l9 _ _) (D_len _) (by omega)) (
  brN (c := Nat.ble (((w10 i.1 i.2.1 i.2.2).length + (N 0).length) * mulB Tryz.prog 5) maxL) (app_ok 10 (l10 _ _ _) (N_len _) (by omega)) (
  (by rw [w_eq]; rfl : some (w11 i.1 i.2.1 i.2.2, 0, ()) = some (chg_c.ret (says i.1 i.2.1 i.2.2, ()))))))))))))))
  And.intro (bq (!decide ((0 : Int) ≤ IntKind.wrap .i64 (i.2.1 - 1))) (fun h5 => (by
      have k1 := hq.2.2.1
      have k2 := hq.2.2.2
      rw [IntWalk.i64_in _ (by omega)] at h5; simp at h5; omega : some ([], 2, ()) = some (chg_c.ret (says i.1 i.2.1 i.2.2, ()))))
  (fun _ => bq (decide ((1 : Int) < seenQ i.2.2)) (fun h6 => (by rw [seenQ_eq] at h6; simp at h6 : some ([], 2, ()) = some (chg_c.ret (says i.1 i.2.1 i.2.2, ()))))
  (fun _ => tl)))
  (bq (!decide ((0 : Int) ≤ IntKind.wrap .i64 (i.2.1 - 1))) (fun h5 => (by
      have k1 := hq.2.2.1
      have k2 := hq.2.2.2
      rw [IntWalk.i64_in _ (by omega)] at h5; simp at h5; omega : some ([], 2, ()) = some (chg_c.ret (says i.1 i.2.1 i.2.2, ()))))
  (fun _ => bq (decide ((1 : Int) < seenP i.2.2)) (fun h6 => (by rw [seenP_eq] at h6; simp at h6 : some ([], 2, ()) = some (chg_c.ret (says i.1 i.2.1 i.2.2, ()))))
  (fun _ => tl)))))
  (fun h3 => (by have := hq.2.2.1; simp at h3; omega : some ([], 2, ()) = some (chg_c.ret (says i.1 i.2.1 i.2.2, ()))))))
  (fun h1 => (by have := hq.1; simp at h1; omega : some ([], 2, ()) = some (chg_c.ret (says i.1 i.2.1 i.2.2, ()))))
end Go.Proofs.YtpbcabanpppfoaaGreat

namespace Go.Proofs.YtpbcabanpppfoaaGreat
open Go Go.Gx Go.Vz
set_option maxRecDepth 100000
/-- A promise, of fewer. -/
theorem Con.weak {c : Con D} {f : Nat} (h : c.ok Tryz.prog f) (p : HL D c.ts → Prop) (r : HL D c.ts → HL D c.rt) (hr : ∀ a, p a → c.holds a ∧ c.ret a = r a) : ({ ts := c.ts, rt := c.rt, pre := some p, ret := r } : Con D).ok Tryz.prog f := by
  intro a G w vs hw hp hv
  obtain ⟨h1, h2⟩ := hr a hp
  have := h a G w vs hw h1 hv
  rw [h2] at this
  exact this
/-! ### Small numbers -/
def numS : Int → List UInt8
  | .ofNat 0 => [0]
  | .ofNat (k + 1) => [1, UInt8.ofNat (k + 1)]
  | .negSucc _ => []
abbrev isS (x : Int) : Prop := ∃ k : Nat, k ≤ 255 ∧ x = (k : Int)
theorem numB_S {k : Nat} (h : k ≤ 255) : numB k = numS (k : Int) := by
  cases k with
  | zero => rfl
  | succ k =>
    show UInt8.ofNat (digs (k + 1)).length :: digs (k + 1) = [1, UInt8.ofNat (k + 1)]
    have : digs (k + 1) = [UInt8.ofNat (k + 1)] := by
      show digsF 7 ((k + 1) / 256) ++ [UInt8.ofNat ((k + 1) % 256)] = _
      rw [Nat.div_eq_of_lt (by omega), Nat.mod_eq_of_lt (by omega)]; rfl
    rw [this]; rfl
def numS_c : Con D := { ts := [.int], rt := [.sl .u8, .int], pre := some (fun a => isS a.1), ret := fun a => (numS a.1, 0, ()) }
theorem numS_ok : numS_c.ok Tryz.prog 286 := Con.weak num_ok _ _ fun a ⟨k, hk, h⟩ => ⟨trivial, by
  obtain ⟨x, u⟩ := a
  have h : x = (k : Int) := h
  subst h
  show num_p ((k : Int), ()) = (numS (k : Int), 0, ())
  unfold num_p
  have h1 : decide ((k : Int) < 0) = false := by simp
  have h2 : decide ((9007199254740991 : Int) < (k : Int)) = false := by simp; omega
  show (bif decide ((k : Int) < 0) then _ else bif decide ((9007199254740991 : Int) < (k : Int)) then _ else (numB (Int.toNat (k : Int)), 0, ())) = _
  rw [h1, h2, Int.toNat_natCast, numB_S hk]; rfl⟩
def tkS : List UInt8 → Int × List UInt8 × Int
  | [] => (0, [], 3)
  | m :: r => bif Nat.beq m.toNat 0 then (0, r, 0) else match r with
    | [] => (0, [], 3)
    | y :: r' => ((y.toNat : Nat), r', 0)
def tkS_c : Con D := { ts := [.sl .u8], rt := [.int, .sl .u8, .int], pre := some (fun a => ∃ (k : Nat) (r : List UInt8), k ≤ 255 ∧ r.length ≤ 1000 ∧ a.1 = numS (k : Int) ++ r), ret := fun a => R3 (tkS a.1) }
theorem tkN_S {k : Nat} {r : List UInt8} (hk : k ≤ 255) : tkN (numS (k : Int) ++ r) = tkS (numS (k : Int) ++ r) := by
  cases k with
  | zero => rfl
  | succ k =>
    show tkN (1 :: UInt8.ofNat (k + 1) :: r) = ((((UInt8.ofNat (k + 1)).toNat : Nat) : Int), r, 0)
    have hz : (UInt8.ofNat (k + 1)).toNat = k + 1 := by simp; omega
    have e1 : hdU (1 :: UInt8.ofNat (k + 1) :: r) = 1 := rfl
    have e2 : tlU (1 :: UInt8.ofNat (k + 1) :: r) = UInt8.ofNat (k + 1) :: r := rfl
    have e3 : foldN ((UInt8.ofNat (k + 1) :: r).take (1 : UInt8).toNat) = k + 1 := by
      show 256 * 0 + (UInt8.ofNat (k + 1)).toNat = k + 1
      rw [hz]; omega
    have c1 : decide ((UInt8.ofNat (k + 1) :: r).length < (1 : UInt8).toNat) = false := by simp
    have c2 : decide (((UInt8.ofNat (k + 1) :: r).getD 0 0).toNat = 0) = false := by
      show decide ((UInt8.ofNat (k + 1)).toNat = 0) = false
      rw [hz]; simp
    have c3 : decide (9007199254740991 < k + 1) = false := by simp; omega
    unfold tkN
    rw [e1, e2, e3, c1, c2, c3, hz]
    rfl
theorem tkS_ok : tkS_c.ok Tryz.prog 300 := Con.weak tkN_ok _ _ fun a ⟨k, r, hk, hr, h⟩ => by
  obtain ⟨x, u⟩ := a
  have h : x = numS (k : Int) ++ r := h
  subst h
  refine ⟨?_, ?_⟩
  · show (numS (k : Int) ++ r).length ≤ 1000000
    have : (numS (k : Int)).length ≤ 2 := by cases k <;> simp [numS]
    rw [List.length_append]; omega
  · show R3 (tkN (numS (k : Int) ++ r)) = R3 (tkS (numS (k : Int) ++ r))
    rw [tkN_S hk]
/-! ### 153 note.isNode, 191 note.isView -/
def isT_c (m n : Int) : Con D := { ts := [.int], rt := [.bool], pre := some (fun a => m ≤ a.1 ∧ a.1 ≤ n), ret := fun _ => (true, ()) }
theorem isNode_ok : (isT_c 1 28).ok Tryz.prog 153 := Con.prove (c := isT_c 1 28) EF Z0 K0 (H := H0) (n := 2) fun (a : HL D (isT_c 1 28).ts) (hp : (isT_c 1 28).holds a) =>
  bq (decide ((1 : Int) ≤ a.1)) (fun _ => (by rw [decide_eq_true hp.2]; rfl : some (decide (a.1 ≤ (28 : Int)), ()) = some ((isT_c 1 28).ret a))) (fun h => (absurd hp.1 (of_decide_eq_false h) : some (false, ()) = some ((isT_c 1 28).ret a)))
theorem isView_ok : (isT_c 0 1048576).ok Tryz.prog 191 := Con.prove (c := isT_c 0 1048576) EF Z0 K0 (H := H0) (n := 2) fun (a : HL D (isT_c 0 1048576).ts) (hp : (isT_c 0 1048576).holds a) =>
  bq (decide ((0 : Int) ≤ a.1)) (fun _ => (by rw [decide_eq_true hp.2]; rfl : some (decide (a.1 ≤ (1048576 : Int)), ()) = some ((isT_c 0 1048576).ret a))) (fun h => (absurd hp.1 (of_decide_eq_false h) : some (false, ()) = some ((isT_c 0 1048576).ret a)))
/-! ### 120 note.changeMay, of changes that says is made of -/
abbrev saysN (i : Nat × Nat × UInt8) : Change := says ((i.1 + 1 : Nat) : Int) ((i.2.1 + 1 : Nat) : Int) i.2.2
abbrev okN (i : Nat × Nat × UInt8) : Prop := i.1 + 1 ≤ 28 ∧ i.2.1 + 1 ≤ 255
def chM_c : Con D := { ts := [.st 3], rt := [.bool], pre := some (fun a => ∃ i : Int × Int × UInt8, a = (says i.1 i.2.1 i.2.2, ()) ∧ chOk i), ret := fun _ => (true, ()) }
abbrev chF (i : Int × Int × UInt8) : Prop := some (false, ()) = some (chM_c.ret (says i.1 i.2.1 i.2.2, ()))
theorem chM_ok : chM_c.ok Tryz.prog 120 := Con.proveS (c := chM_c) EF (Z0.side Kb) Kb (fun i : Int × Int × UInt8 => (says i.1 i.2.1 i.2.2, ())) chOk (fun a h => h) (H := HU) (n := 6) fun (i : Int × Int × UInt8) (hq : chOk i) =>
  bq (!bif decide ((1 : Int) ≤ i.1) then decide (i.1 ≤ (28 : Int)) else false) (fun h1 => (by rw [decide_eq_true hq.1, decide_eq_true hq.2.1] at h1; exact Bool.noConfusion h1 : chF i)) (fun _ =>
  bq (!bif decide ((1 : Int) ≤ i.2.1) then decide (i.2.1 ≤ (1048576 : Int)) else false) (fun h1 => (by rw [decide_eq_true hq.2.2.1, decide_eq_true (Int.le_trans hq.2.2.2 (by decide))] at h1; exact Bool.noConfusion h1 : chF i)) (fun _ =>
  have hv : IntKind.wrap .i64 (i.2.1 - 1) = i.2.1 - 1 := IntWalk.i64_in _ (by have := hq.2.2.1; have := hq.2.2.2; omega)
  have h0 : decide ((0 : Int) ≤ IntKind.wrap .i64 (i.2.1 - 1)) = true := by rw [hv]; have := hq.2.2.1; simp; omega
  And.intro (bq (!decide ((0 : Int) ≤ IntKind.wrap .i64 (i.2.1 - 1))) (fun h5 => (by rw [h0] at h5; exact Bool.noConfusion h5 : chF i))
    (fun _ => bq (decide ((1 : Int) < seenQ i.2.2)) (fun h6 => (by rw [seenQ_eq] at h6; simp at h6 : chF i)) (fun _ => (rfl : some (true, ()) = some (chM_c.ret (says i.1 i.2.1 i.2.2, ()))))))
  (bq (!decide ((0 : Int) ≤ IntKind.wrap .i64 (i.2.1 - 1))) (fun h5 => (by rw [h0] at h5; exact Bool.noConfusion h5 : chF i))
    (fun _ => bq (decide ((1 : Int) < seenP i.2.2)) (fun h6 => (by rw [seenP_eq] at h6; simp at h6 : chF i)) (fun _ => (rfl : some (true, ()) = some (chM_c.ret (says i.1 i.2.1 i.2.2, ()))))))))
end Go.Proofs.YtpbcabanpppfoaaGreat
