/- Change: equality of lists, walked by reckoning. No condition. -/
import Derived.Test.YtpbcabanpppfoaaGreatCzN
import Derived.Test.YtpbcabanpppfoaaGreatVzOnce
set_option linter.all false
namespace Go.Proofs.YtpbcabanpppfoaaGreat
open Go Go.Gx Go.Vz
set_option maxRecDepth 100000
def eqB {α : Type} [DecidableEq α] (a b : List α) : Bool := decide (a = b)
section
variable {α : Type} [DecidableEq α] {xs ys : List α} {d : α} {i : Nat}
theorem eqN (h : ((xs.length : Int) != (ys.length : Int)) = true) : eqB xs ys = false := by
  unfold eqB
  rw [decide_eq_false_iff_not]
  rintro rfl
  simp at h
omit [DecidableEq α] in
theorem eqLn (h : ((xs.length : Int) != (ys.length : Int)) = false) : xs.length = ys.length := by
  have := of_decide_eq_false (p := ((xs.length : Int) ≠ (ys.length : Int))) (by simpa using h)
  omega
theorem eqFl (h : xs.getD i d ≠ ys.getD i d) : eqB xs ys = false := by
  unfold eqB
  rw [decide_eq_false_iff_not]
  rintro rfl
  exact h rfl
omit [DecidableEq α] in
theorem eqSt (hi : i < xs.length) (hl : xs.length = ys.length) (h0 : xs.take i = ys.take i) (h : xs.getD i d = ys.getD i d) : xs.take (i + 1) = ys.take (i + 1) := by
  rw [List.getD_eq_getElem?_getD, List.getD_eq_getElem?_getD, List.getElem?_eq_getElem hi, List.getElem?_eq_getElem (by omega : i < ys.length)] at h
  simp only [Option.getD_some] at h
  rw [List.take_succ, List.take_succ, h0, List.getElem?_eq_getElem hi, List.getElem?_eq_getElem (by omega : i < ys.length), h]
theorem eqTr (hi : ¬ i < xs.length) (hl : xs.length = ys.length) (hI : i ≤ xs.length ∧ xs.take i = ys.take i) : eqB xs ys = true := by
  unfold eqB
  rw [decide_eq_true_iff]
  have e : i = xs.length := by omega
  have := hI.2
  rwa [e, List.take_length, hl, List.take_length] at this
end
def eq_h {α : Type} (xs ys : List α) (k : Nat) : LH D := ⟨Nat, [k], fun i => [.i .i64 (i : Nat)], fun i => i ≤ xs.length ∧ xs.take i = ys.take i, fun i => xs.length - i, [], fun _ => [], [], fun _ => []⟩
theorem eqRnd {α : Type} [DecidableEq α] {xs ys : List α} {d : α} {i k : Nat} (hI : (eq_h xs ys k).inv i) (hi : i < xs.length) (hm : xs.length ≤ maxL) (hl : xs.length = ys.length) (h : xs.getD i d = ys.getD i d) : Rnd (eq_h xs ys k) i [iv (IntKind.wrap .i64 ((i : Int) + 1))] [] [] :=
  ⟨(i + 1 : Nat), by rw [wrap1 hi hm]; rfl, rfl, rfl, ⟨hi, eqSt hi hl hI.2 h⟩, by show xs.length - (i + 1) < xs.length - i; omega⟩
theorem mk_ne {a b : Mark} : (!(a.seq == b.seq && (decide (a.dig = b.dig) && true))) = !decide (a = b) := by cases a; cases b; simp [Bool.beq_eq_decide_eq]
theorem st_ne {a b : Stand} : (!(a.seq == b.seq && (decide (a.dig = b.dig) && (a.view == b.view && true)))) = !decide (a = b) := by cases a; cases b; simp [Bool.beq_eq_decide_eq]
theorem u8ne {x y : UInt8} (h : ((x.toNat : Int) != (y.toNat : Int)) = true) : x ≠ y := fun e => by rw [e] at h; simp at h
theorem u8ne0 {x y : UInt8} (h : ((x.toNat : Int) != (y.toNat : Int)) = false) : x = y := UInt8.toNat_inj.1 (Int.ofNat.inj (by simpa using h))
theorem nde {α : Type} [DecidableEq α] {a b : α} (h : (!decide (a = b)) = true) : a ≠ b := by simpa using h
theorem nde0 {α : Type} [DecidableEq α] {a b : α} (h : (!decide (a = b)) = false) : a = b := by simpa using h
/-! ### 84 -/
def eqM_c : Con D := { ts := [.sl (.st 1), .sl (.st 1)], rt := [.bool], ret := fun a => (eqB (α := Mark) a.1 a.2.1, ()) }
theorem eqM_ok : eqM_c.ok Tryz.prog 84 := Con.prove (c := eqM_c) EF Z0 K0 (H := fun a f r => match f, r with | 84, 4 => some (.inv (eq_h (α := Mark) a.1 a.2.1 13)) | _, _ => none) (n := 2) fun (a : HL D eqM_c.ts) (_ : eqM_c.holds a) =>
  brL fun h1 : a.1.length ≤ maxL => brL fun h2 : a.2.1.length ≤ maxL =>
  bq (((a.1.length : Nat) : Int) != ((a.2.1.length : Nat) : Int)) (fun h3 => (by rw [show eqM_c.ret a = (eqB (α := Mark) a.1 a.2.1, ()) from rfl, eqN (α := Mark) h3]; rfl : some (false, ()) = some (eqM_c.ret a)))
  (fun h3 => have hl := eqLn (α := Mark) (xs := a.1) (ys := a.2.1) h3
  brL fun _ : a.1.length ≤ maxL =>
  And.intro (⟨(0 : Nat), rfl, rfl, rfl, ⟨Nat.zero_le _, rfl⟩⟩ : Ent (eq_h (α := Mark) a.1 a.2.1 13) [iv 0] [] [])
  fun (i : Nat) (hI : i ≤ a.1.length ∧ a.1.take i = a.2.1.take i) =>
  
  bq (decide ((i : Int) < (a.1.length : Int))) (fun h6 => have hi : i < a.1.length := by have := of_decide_eq_true h6; omega
    brN (c := decide ((0 : Int) ≤ (i : Int)) && decide ((i : Int) < (a.1.length : Int))) (by simp; omega) (
    brN (c := decide ((0 : Int) ≤ (i : Int)) && decide ((i : Int) < (a.2.1.length : Int))) (by simp; omega) (
    bq (!((List.getD a.1 (Int.toNat (i : Int)) (Ty.dflt D (.st 1) : Mark)).seq == (List.getD a.2.1 (Int.toNat (i : Int)) (Ty.dflt D (.st 1) : Mark)).seq && (decide ((List.getD a.1 (Int.toNat (i : Int)) (Ty.dflt D (.st 1) : Mark)).dig = (List.getD a.2.1 (Int.toNat (i : Int)) (Ty.dflt D (.st 1) : Mark)).dig) && true))) (fun h7 =>
      (by rw [show eqM_c.ret a = (eqB (α := Mark) a.1 a.2.1, ()) from rfl, eqFl (α := Mark) (i := i) (d := (Ty.dflt D (.st 1) : Mark)) (nde (α := Mark) (by rw [← mk_ne]; exact h7))]; rfl : some (false, ()) = some (eqM_c.ret a)))
    (fun h7 => eqRnd (α := Mark) (xs := a.1) (ys := a.2.1) (k := 13) (d := (Ty.dflt D (.st 1) : Mark)) hI hi h1 hl (nde0 (α := Mark) (by rw [← mk_ne]; exact h7))))))
  (fun h6 => (by rw [show eqM_c.ret a = (eqB (α := Mark) a.1 a.2.1, ()) from rfl, eqTr (α := Mark) (i := i) (by have := of_decide_eq_false h6; omega) hl hI]; rfl : some (true, ()) = some (eqM_c.ret a))))
/-! ### 85 -/
def eqS_c : Con D := { ts := [.sl (.st 2), .sl (.st 2)], rt := [.bool], ret := fun a => (eqB (α := Stand) a.1 a.2.1, ()) }
theorem eqS_ok : eqS_c.ok Tryz.prog 85 := Con.prove (c := eqS_c) EF Z0 K0 (H := fun a f r => match f, r with | 85, 4 => some (.inv (eq_h (α := Stand) a.1 a.2.1 13)) | _, _ => none) (n := 2) fun (a : HL D eqS_c.ts) (_ : eqS_c.holds a) =>
  brL fun h1 : a.1.length ≤ maxL => brL fun h2 : a.2.1.length ≤ maxL =>
  bq (((a.1.length : Nat) : Int) != ((a.2.1.length : Nat) : Int)) (fun h3 => (by rw [show eqS_c.ret a = (eqB (α := Stand) a.1 a.2.1, ()) from rfl, eqN (α := Stand) h3]; rfl : some (false, ()) = some (eqS_c.ret a)))
  (fun h3 => have hl := eqLn (α := Stand) (xs := a.1) (ys := a.2.1) h3
  brL fun _ : a.1.length ≤ maxL =>
  And.intro (⟨(0 : Nat), rfl, rfl, rfl, ⟨Nat.zero_le _, rfl⟩⟩ : Ent (eq_h (α := Stand) a.1 a.2.1 13) [iv 0] [] [])
  fun (i : Nat) (hI : i ≤ a.1.length ∧ a.1.take i = a.2.1.take i) =>
  
  bq (decide ((i : Int) < (a.1.length : Int))) (fun h6 => have hi : i < a.1.length := by have := of_decide_eq_true h6; omega
    brN (c := decide ((0 : Int) ≤ (i : Int)) && decide ((i : Int) < (a.1.length : Int))) (by simp; omega) (
    brN (c := decide ((0 : Int) ≤ (i : Int)) && decide ((i : Int) < (a.2.1.length : Int))) (by simp; omega) (
    bq (!((List.getD a.1 (Int.toNat (i : Int)) (Ty.dflt D (.st 2) : Stand)).seq == (List.getD a.2.1 (Int.toNat (i : Int)) (Ty.dflt D (.st 2) : Stand)).seq && (decide ((List.getD a.1 (Int.toNat (i : Int)) (Ty.dflt D (.st 2) : Stand)).dig = (List.getD a.2.1 (Int.toNat (i : Int)) (Ty.dflt D (.st 2) : Stand)).dig) && ((List.getD a.1 (Int.toNat (i : Int)) (Ty.dflt D (.st 2) : Stand)).view == (List.getD a.2.1 (Int.toNat (i : Int)) (Ty.dflt D (.st 2) : Stand)).view && true)))) (fun h7 =>
      (by rw [show eqS_c.ret a = (eqB (α := Stand) a.1 a.2.1, ()) from rfl, eqFl (α := Stand) (i := i) (d := (Ty.dflt D (.st 2) : Stand)) (nde (α := Stand) (by rw [← st_ne]; exact h7))]; rfl : some (false, ()) = some (eqS_c.ret a)))
    (fun h7 => eqRnd (α := Stand) (xs := a.1) (ys := a.2.1) (k := 13) (d := (Ty.dflt D (.st 2) : Stand)) hI hi h1 hl (nde0 (α := Stand) (by rw [← st_ne]; exact h7))))))
  (fun h6 => (by rw [show eqS_c.ret a = (eqB (α := Stand) a.1 a.2.1, ()) from rfl, eqTr (α := Stand) (i := i) (by have := of_decide_eq_false h6; omega) hl hI]; rfl : some (true, ()) = some (eqS_c.ret a))))
/-! ### 157 -/
def eqI_c : Con D := { ts := [.sl (.int), .sl (.int)], rt := [.bool], ret := fun a => (eqB (α := Int) a.1 a.2.1, ()) }
theorem eqI_ok : eqI_c.ok Tryz.prog 157 := Con.prove (c := eqI_c) EF Z0 K0 (H := fun a f r => match f, r with | 157, 4 => some (.inv (eq_h (α := Int) a.1 a.2.1 13)) | _, _ => none) (n := 2) fun (a : HL D eqI_c.ts) (_ : eqI_c.holds a) =>
  brL fun h1 : a.1.length ≤ maxL => brL fun h2 : a.2.1.length ≤ maxL =>
  bq (((a.1.length : Nat) : Int) != ((a.2.1.length : Nat) : Int)) (fun h3 => (by rw [show eqI_c.ret a = (eqB (α := Int) a.1 a.2.1, ()) from rfl, eqN (α := Int) h3]; rfl : some (false, ()) = some (eqI_c.ret a)))
  (fun h3 => have hl := eqLn (α := Int) (xs := a.1) (ys := a.2.1) h3
  brL fun _ : a.1.length ≤ maxL =>
  And.intro (⟨(0 : Nat), rfl, rfl, rfl, ⟨Nat.zero_le _, rfl⟩⟩ : Ent (eq_h (α := Int) a.1 a.2.1 13) [iv 0] [] [])
  fun (i : Nat) (hI : i ≤ a.1.length ∧ a.1.take i = a.2.1.take i) =>
  
  bq (decide ((i : Int) < (a.1.length : Int))) (fun h6 => have hi : i < a.1.length := by have := of_decide_eq_true h6; omega
    brN (c := decide ((0 : Int) ≤ (i : Int)) && decide ((i : Int) < (a.1.length : Int))) (by simp; omega) (
    brN (c := decide ((0 : Int) ≤ (i : Int)) && decide ((i : Int) < (a.2.1.length : Int))) (by simp; omega) (
    bq ((List.getD a.1 (Int.toNat (i : Int)) (Ty.dflt D (.int) : Int)) != (List.getD a.2.1 (Int.toNat (i : Int)) (Ty.dflt D (.int) : Int))) (fun h7 =>
      (by rw [show eqI_c.ret a = (eqB (α := Int) a.1 a.2.1, ()) from rfl, eqFl (α := Int) (i := i) (d := (Ty.dflt D (.int) : Int)) (bne_iff_ne.1 h7)]; rfl : some (false, ()) = some (eqI_c.ret a)))
    (fun h7 => eqRnd (α := Int) (xs := a.1) (ys := a.2.1) (k := 13) (d := (Ty.dflt D (.int) : Int)) hI hi h1 hl (by simpa using h7)))))
  (fun h6 => (by rw [show eqI_c.ret a = (eqB (α := Int) a.1 a.2.1, ()) from rfl, eqTr (α := Int) (i := i) (by have := of_decide_eq_false h6; omega) hl hI]; rfl : some (true, ()) = some (eqI_c.ret a))))
/-! ### 163 -/
def eqD_c : Con D := { ts := [.sl (.dig), .sl (.dig)], rt := [.bool], ret := fun a => (eqB (α := Dig) a.1 a.2.1, ()) }
theorem eqD_ok : eqD_c.ok Tryz.prog 163 := Con.prove (c := eqD_c) EF Z0 K0 (H := fun a f r => match f, r with | 163, 4 => some (.inv (eq_h (α := Dig) a.1 a.2.1 13)) | _, _ => none) (n := 2) fun (a : HL D eqD_c.ts) (_ : eqD_c.holds a) =>
  brL fun h1 : a.1.length ≤ maxL => brL fun h2 : a.2.1.length ≤ maxL =>
  bq (((a.1.length : Nat) : Int) != ((a.2.1.length : Nat) : Int)) (fun h3 => (by rw [show eqD_c.ret a = (eqB (α := Dig) a.1 a.2.1, ()) from rfl, eqN (α := Dig) h3]; rfl : some (false, ()) = some (eqD_c.ret a)))
  (fun h3 => have hl := eqLn (α := Dig) (xs := a.1) (ys := a.2.1) h3
  brL fun _ : a.1.length ≤ maxL =>
  And.intro (⟨(0 : Nat), rfl, rfl, rfl, ⟨Nat.zero_le _, rfl⟩⟩ : Ent (eq_h (α := Dig) a.1 a.2.1 13) [iv 0] [] [])
  fun (i : Nat) (hI : i ≤ a.1.length ∧ a.1.take i = a.2.1.take i) =>
  
  bq (decide ((i : Int) < (a.1.length : Int))) (fun h6 => have hi : i < a.1.length := by have := of_decide_eq_true h6; omega
    brN (c := decide ((0 : Int) ≤ (i : Int)) && decide ((i : Int) < (a.1.length : Int))) (by simp; omega) (
    brN (c := decide ((0 : Int) ≤ (i : Int)) && decide ((i : Int) < (a.2.1.length : Int))) (by simp; omega) (
    bq (!decide ((List.getD a.1 (Int.toNat (i : Int)) (Ty.dflt D (.dig) : Dig)) = (List.getD a.2.1 (Int.toNat (i : Int)) (Ty.dflt D (.dig) : Dig)))) (fun h7 =>
      (by rw [show eqD_c.ret a = (eqB (α := Dig) a.1 a.2.1, ()) from rfl, eqFl (α := Dig) (i := i) (d := (Ty.dflt D (.dig) : Dig)) (nde h7)]; rfl : some (false, ()) = some (eqD_c.ret a)))
    (fun h7 => eqRnd (α := Dig) (xs := a.1) (ys := a.2.1) (k := 13) (d := (Ty.dflt D (.dig) : Dig)) hI hi h1 hl (nde0 h7)))))
  (fun h6 => (by rw [show eqD_c.ret a = (eqB (α := Dig) a.1 a.2.1, ()) from rfl, eqTr (α := Dig) (i := i) (by have := of_decide_eq_false h6; omega) hl hI]; rfl : some (true, ()) = some (eqD_c.ret a))))
/-! ### 56 -/
def eqM2_c : Con D := { ts := [.sl (.st 1), .sl (.st 1)], rt := [.bool], ret := fun a => (eqB (α := Mark) a.1 a.2.1, ()) }
theorem eqM2_ok : eqM2_c.ok Tryz.prog 56 := Con.prove (c := eqM2_c) EF Z0 K0 (H := fun a f r => match f, r with | 56, 4 => some (.inv (eq_h (α := Mark) a.1 a.2.1 5)) | _, _ => none) (n := 2) fun (a : HL D eqM2_c.ts) (_ : eqM2_c.holds a) =>
  brL fun h1 : a.1.length ≤ maxL => brL fun h2 : a.2.1.length ≤ maxL =>
  bq (((a.1.length : Nat) : Int) != ((a.2.1.length : Nat) : Int)) (fun h3 => (by rw [show eqM2_c.ret a = (eqB (α := Mark) a.1 a.2.1, ()) from rfl, eqN (α := Mark) h3]; rfl : some (false, ()) = some (eqM2_c.ret a)))
  (fun h3 => have hl := eqLn (α := Mark) (xs := a.1) (ys := a.2.1) h3
  
  And.intro (⟨(0 : Nat), rfl, rfl, rfl, ⟨Nat.zero_le _, rfl⟩⟩ : Ent (eq_h (α := Mark) a.1 a.2.1 5) [iv 0] [] [])
  fun (i : Nat) (hI : i ≤ a.1.length ∧ a.1.take i = a.2.1.take i) =>
  brL fun _ : a.1.length ≤ maxL =>
  bq (decide ((i : Int) < (a.1.length : Int))) (fun h6 => have hi : i < a.1.length := by have := of_decide_eq_true h6; omega
    brN (c := decide ((0 : Int) ≤ (i : Int)) && decide ((i : Int) < (a.1.length : Int))) (by simp; omega) (
    brN (c := decide ((0 : Int) ≤ (i : Int)) && decide ((i : Int) < (a.2.1.length : Int))) (by simp; omega) (
    bq (!((List.getD a.1 (Int.toNat (i : Int)) (Ty.dflt D (.st 1) : Mark)).seq == (List.getD a.2.1 (Int.toNat (i : Int)) (Ty.dflt D (.st 1) : Mark)).seq && (decide ((List.getD a.1 (Int.toNat (i : Int)) (Ty.dflt D (.st 1) : Mark)).dig = (List.getD a.2.1 (Int.toNat (i : Int)) (Ty.dflt D (.st 1) : Mark)).dig) && true))) (fun h7 =>
      (by rw [show eqM2_c.ret a = (eqB (α := Mark) a.1 a.2.1, ()) from rfl, eqFl (α := Mark) (i := i) (d := (Ty.dflt D (.st 1) : Mark)) (nde (α := Mark) (by rw [← mk_ne]; exact h7))]; rfl : some (false, ()) = some (eqM2_c.ret a)))
    (fun h7 => eqRnd (α := Mark) (xs := a.1) (ys := a.2.1) (k := 5) (d := (Ty.dflt D (.st 1) : Mark)) hI hi h1 hl (nde0 (α := Mark) (by rw [← mk_ne]; exact h7))))))
  (fun h6 => (by rw [show eqM2_c.ret a = (eqB (α := Mark) a.1 a.2.1, ()) from rfl, eqTr (α := Mark) (i := i) (by have := of_decide_eq_false h6; omega) hl hI]; rfl : some (true, ()) = some (eqM2_c.ret a))))
/-! ### 57 -/
def eqS2_c : Con D := { ts := [.sl (.st 2), .sl (.st 2)], rt := [.bool], ret := fun a => (eqB (α := Stand) a.1 a.2.1, ()) }
theorem eqS2_ok : eqS2_c.ok Tryz.prog 57 := Con.prove (c := eqS2_c) EF Z0 K0 (H := fun a f r => match f, r with | 57, 4 => some (.inv (eq_h (α := Stand) a.1 a.2.1 5)) | _, _ => none) (n := 2) fun (a : HL D eqS2_c.ts) (_ : eqS2_c.holds a) =>
  brL fun h1 : a.1.length ≤ maxL => brL fun h2 : a.2.1.length ≤ maxL =>
  bq (((a.1.length : Nat) : Int) != ((a.2.1.length : Nat) : Int)) (fun h3 => (by rw [show eqS2_c.ret a = (eqB (α := Stand) a.1 a.2.1, ()) from rfl, eqN (α := Stand) h3]; rfl : some (false, ()) = some (eqS2_c.ret a)))
  (fun h3 => have hl := eqLn (α := Stand) (xs := a.1) (ys := a.2.1) h3
  
  And.intro (⟨(0 : Nat), rfl, rfl, rfl, ⟨Nat.zero_le _, rfl⟩⟩ : Ent (eq_h (α := Stand) a.1 a.2.1 5) [iv 0] [] [])
  fun (i : Nat) (hI : i ≤ a.1.length ∧ a.1.take i = a.2.1.take i) =>
  brL fun _ : a.1.length ≤ maxL =>
  bq (decide ((i : Int) < (a.1.length : Int))) (fun h6 => have hi : i < a.1.length := by have := of_decide_eq_true h6; omega
    brN (c := decide ((0 : Int) ≤ (i : Int)) && decide ((i : Int) < (a.1.length : Int))) (by simp; omega) (
    brN (c := decide ((0 : Int) ≤ (i : Int)) && decide ((i : Int) < (a.2.1.length : Int))) (by simp; omega) (
    bq (!((List.getD a.1 (Int.toNat (i : Int)) (Ty.dflt D (.st 2) : Stand)).seq == (List.getD a.2.1 (Int.toNat (i : Int)) (Ty.dflt D (.st 2) : Stand)).seq && (decide ((List.getD a.1 (Int.toNat (i : Int)) (Ty.dflt D (.st 2) : Stand)).dig = (List.getD a.2.1 (Int.toNat (i : Int)) (Ty.dflt D (.st 2) : Stand)).dig) && ((List.getD a.1 (Int.toNat (i : Int)) (Ty.dflt D (.st 2) : Stand)).view == (List.getD a.2.1 (Int.toNat (i : Int)) (Ty.dflt D (.st 2) : Stand)).view && true)))) (fun h7 =>
      (by rw [show eqS2_c.ret a = (eqB (α := Stand) a.1 a.2.1, ()) from rfl, eqFl (α := Stand) (i := i) (d := (Ty.dflt D (.st 2) : Stand)) (nde (α := Stand) (by rw [← st_ne]; exact h7))]; rfl : some (false, ()) = some (eqS2_c.ret a)))
    (fun h7 => eqRnd (α := Stand) (xs := a.1) (ys := a.2.1) (k := 5) (d := (Ty.dflt D (.st 2) : Stand)) hI hi h1 hl (nde0 (α := Stand) (by rw [← st_ne]; exact h7))))))
  (fun h6 => (by rw [show eqS2_c.ret a = (eqB (α := Stand) a.1 a.2.1, ()) from rfl, eqTr (α := Stand) (i := i) (by have := of_decide_eq_false h6; omega) hl hI]; rfl : some (true, ()) = some (eqS2_c.ret a))))
/-! ### 107 -/
def eqI2_c : Con D := { ts := [.sl (.int), .sl (.int)], rt := [.bool], ret := fun a => (eqB (α := Int) a.1 a.2.1, ()) }
theorem eqI2_ok : eqI2_c.ok Tryz.prog 107 := Con.prove (c := eqI2_c) EF Z0 K0 (H := fun a f r => match f, r with | 107, 4 => some (.inv (eq_h (α := Int) a.1 a.2.1 5)) | _, _ => none) (n := 2) fun (a : HL D eqI2_c.ts) (_ : eqI2_c.holds a) =>
  brL fun h1 : a.1.length ≤ maxL => brL fun h2 : a.2.1.length ≤ maxL =>
  bq (((a.1.length : Nat) : Int) != ((a.2.1.length : Nat) : Int)) (fun h3 => (by rw [show eqI2_c.ret a = (eqB (α := Int) a.1 a.2.1, ()) from rfl, eqN (α := Int) h3]; rfl : some (false, ()) = some (eqI2_c.ret a)))
  (fun h3 => have hl := eqLn (α := Int) (xs := a.1) (ys := a.2.1) h3
  
  And.intro (⟨(0 : Nat), rfl, rfl, rfl, ⟨Nat.zero_le _, rfl⟩⟩ : Ent (eq_h (α := Int) a.1 a.2.1 5) [iv 0] [] [])
  fun (i : Nat) (hI : i ≤ a.1.length ∧ a.1.take i = a.2.1.take i) =>
  brL fun _ : a.1.length ≤ maxL =>
  bq (decide ((i : Int) < (a.1.length : Int))) (fun h6 => have hi : i < a.1.length := by have := of_decide_eq_true h6; omega
    brN (c := decide ((0 : Int) ≤ (i : Int)) && decide ((i : Int) < (a.1.length : Int))) (by simp; omega) (
    brN (c := decide ((0 : Int) ≤ (i : Int)) && decide ((i : Int) < (a.2.1.length : Int))) (by simp; omega) (
    bq ((List.getD a.1 (Int.toNat (i : Int)) (Ty.dflt D (.int) : Int)) != (List.getD a.2.1 (Int.toNat (i : Int)) (Ty.dflt D (.int) : Int))) (fun h7 =>
      (by rw [show eqI2_c.ret a = (eqB (α := Int) a.1 a.2.1, ()) from rfl, eqFl (α := Int) (i := i) (d := (Ty.dflt D (.int) : Int)) (bne_iff_ne.1 h7)]; rfl : some (false, ()) = some (eqI2_c.ret a)))
    (fun h7 => eqRnd (α := Int) (xs := a.1) (ys := a.2.1) (k := 5) (d := (Ty.dflt D (.int) : Int)) hI hi h1 hl (by simpa using h7)))))
  (fun h6 => (by rw [show eqI2_c.ret a = (eqB (α := Int) a.1 a.2.1, ()) from rfl, eqTr (α := Int) (i := i) (by have := of_decide_eq_false h6; omega) hl hI]; rfl : some (true, ()) = some (eqI2_c.ret a))))
/-! ### 79 -/
def eqB2_c : Con D := { ts := [.sl (.u8), .sl (.u8)], rt := [.bool], ret := fun a => (eqB (α := UInt8) a.1 a.2.1, ()) }
theorem eqB2_ok : eqB2_c.ok Tryz.prog 79 := Con.prove (c := eqB2_c) EF Z0 K0 (H := fun a f r => match f, r with | 79, 4 => some (.inv (eq_h (α := UInt8) a.1 a.2.1 5)) | _, _ => none) (n := 2) fun (a : HL D eqB2_c.ts) (_ : eqB2_c.holds a) =>
  brL fun h1 : a.1.length ≤ maxL => brL fun h2 : a.2.1.length ≤ maxL =>
  bq (((a.1.length : Nat) : Int) != ((a.2.1.length : Nat) : Int)) (fun h3 => (by rw [show eqB2_c.ret a = (eqB (α := UInt8) a.1 a.2.1, ()) from rfl, eqN (α := UInt8) h3]; rfl : some (false, ()) = some (eqB2_c.ret a)))
  (fun h3 => have hl := eqLn (α := UInt8) (xs := a.1) (ys := a.2.1) h3
  
  And.intro (⟨(0 : Nat), rfl, rfl, rfl, ⟨Nat.zero_le _, rfl⟩⟩ : Ent (eq_h (α := UInt8) a.1 a.2.1 5) [iv 0] [] [])
  fun (i : Nat) (hI : i ≤ a.1.length ∧ a.1.take i = a.2.1.take i) =>
  brL fun _ : a.1.length ≤ maxL =>
  bq (decide ((i : Int) < (a.1.length : Int))) (fun h6 => have hi : i < a.1.length := by have := of_decide_eq_true h6; omega
    brN (c := decide ((0 : Int) ≤ (i : Int)) && decide ((i : Int) < (a.1.length : Int))) (by simp; omega) (
    brN (c := decide ((0 : Int) ≤ (i : Int)) && decide ((i : Int) < (a.2.1.length : Int))) (by simp; omega) (
    bq (((List.getD a.1 (Int.toNat (i : Int)) (Ty.dflt D (.u8) : UInt8)).toNat : Int) != ((List.getD a.2.1 (Int.toNat (i : Int)) (Ty.dflt D (.u8) : UInt8)).toNat : Int)) (fun h7 =>
      (by rw [show eqB2_c.ret a = (eqB (α := UInt8) a.1 a.2.1, ()) from rfl, eqFl (α := UInt8) (i := i) (d := (Ty.dflt D (.u8) : UInt8)) (u8ne h7)]; rfl : some (false, ()) = some (eqB2_c.ret a)))
    (fun h7 => eqRnd (α := UInt8) (xs := a.1) (ys := a.2.1) (k := 5) (d := (Ty.dflt D (.u8) : UInt8)) hI hi h1 hl (u8ne0 h7)))))
  (fun h6 => (by rw [show eqB2_c.ret a = (eqB (α := UInt8) a.1 a.2.1, ()) from rfl, eqTr (α := UInt8) (i := i) (by have := of_decide_eq_false h6; omega) hl hI]; rfl : some (true, ()) = some (eqB2_c.ret a))))
end Go.Proofs.YtpbcabanpppfoaaGreat
