/- Change: equality of wishes, changes, batches, walked by reckoning. No condition. -/
import Derived.Test.YtpbcabanpppfoaaGreatCzE
set_option linter.all false
namespace Go.Proofs.YtpbcabanpppfoaaGreat
open Go Go.Gx Go.Vz
set_option maxRecDepth 100000
abbrev Γe := addC (addC (addC (addC (addC (addC (addC (addC (addC noC 84 eqM_c) 85 eqS_c) 157 eqI_c) 163 eqD_c) 56 eqM2_c) 57 eqS2_c) 107 eqI2_c) 79 eqB2_c) 156 bEq_c
theorem Ke : Kept EF Tryz.prog Γe noO := ((((((((K0.c eqM_ok).c eqS_ok).c eqI_ok).c eqD_ok).c eqM2_ok).c eqS2_ok).c eqI2_ok).c eqB2_ok).c bEq_ok
noncomputable def Ze : ZF Tryz.prog D := Z0.side Ke
def dq {α : Type} [DecidableEq α] (a b : α) : Bool := decide (a = b)
abbrev bqL (a b : List UInt8) : Bool := decide (a = b)
theorem ws_t {x y : Wish} (h : (bif !bqL x.data y.data then true else !eqB x.next y.next) = true) : dq x y = false := by
  rw [dq, decide_eq_false_iff_not]; rintro rfl; simp [eqB] at h
theorem ws_f {x y : Wish} (h : (bif !bqL x.data y.data then true else !eqB x.next y.next) = false) : decide ([x.client, x.stamp, x.group, x.epoch, x.kind, x.block, x.old, x.nw] = [y.client, y.stamp, y.group, y.epoch, y.kind, y.block, y.old, y.nw]) = dq x y := by
  have h1 : x.data = y.data := by by_cases e : x.data = y.data; exact e; simp [e] at h
  have h2 : x.next = y.next := by by_cases e : x.next = y.next; exact e; simp [e, h1, eqB] at h
  rw [dq, decide_eq_decide]
  cases x; cases y
  simp only [Wish.mk.injEq, List.cons.injEq] at *
  simp [h1, h2]
/-! ### 204 wish.Same, 187 bastideref11.Same -/
def ws_c : Con D := { ts := [.st 4, .st 4], rt := [.bool], ret := fun a => (dq (α := Wish) a.1 a.2.1, ()) }
theorem ws_ok : ws_c.ok Tryz.prog 204 := Con.prove (c := ws_c) EF Ze Ke (H := H0) (n := 2) fun (a : HL D ws_c.ts) (_ : ws_c.holds a) =>
  bq (bif !bqL a.1.data a.2.1.data then true else !eqB (α := Int) a.1.next a.2.1.next) (fun h => (by rw [show ws_c.ret a = (dq (α := Wish) a.1 a.2.1, ()) from rfl, ws_t h]; rfl : some (false, ()) = some (ws_c.ret a)))
  (fun h => (by rw [show ws_c.ret a = (dq (α := Wish) a.1 a.2.1, ()) from rfl, ← ws_f h]; rfl : some (decide ([a.1.client, a.1.stamp, a.1.group, a.1.epoch, a.1.kind, a.1.block, a.1.old, a.1.nw] = [a.2.1.client, a.2.1.stamp, a.2.1.group, a.2.1.epoch, a.2.1.kind, a.2.1.block, a.2.1.old, a.2.1.nw]), ()) = some (ws_c.ret a)))
def ws2_c : Con D := { ts := [.st 4, .st 4], rt := [.bool], ret := fun a => (dq (α := Wish) a.1 a.2.1, ()) }
theorem ws2_eq (x y : Wish) : (bif bif bif bif bif bif bif bif bif x.client == y.client then x.stamp == y.stamp else false then x.group == y.group else false then x.epoch == y.epoch else false then x.kind == y.kind else false then x.block == y.block else false then eqB x.data y.data else false then x.old == y.old else false then x.nw == y.nw else false then eqB x.next y.next else false) = dq x y := by
  unfold dq eqB
  cases x; cases y
  simp only [Wish.mk.injEq, Bool.cond_false_right, Bool.decide_and, Bool.beq_eq_decide_eq, Bool.and_assoc]
theorem ws2_ok : ws2_c.ok Tryz.prog 187 := Con.prove (c := ws2_c) EF Ze Ke (H := H0) (n := 2) fun (a : HL D ws2_c.ts) (_ : ws2_c.holds a) =>
  (congrArg (fun b => some (b, ())) (ws2_eq a.1 a.2.1) : some (bif bif bif bif bif bif bif bif bif a.1.client == a.2.1.client then a.1.stamp == a.2.1.stamp else false then a.1.group == a.2.1.group else false then a.1.epoch == a.2.1.epoch else false then a.1.kind == a.2.1.kind else false then a.1.block == a.2.1.block else false then eqB (α := UInt8) a.1.data a.2.1.data else false then a.1.old == a.2.1.old else false then a.1.nw == a.2.1.nw else false then eqB (α := Int) a.1.next a.2.1.next else false, ()) = some (dq (α := Wish) a.1 a.2.1, ()))
/-! ### 161 note.sameChange, 43 change.same, 23 bastideref12.SameChange -/
theorem ch_eq (x y : Change) : (bif bif bif bif bif x.node == y.node then x.view == y.view else false then x.low == y.low else false then eqB x.marks y.marks else false then eqB x.p y.p else false then eqB x.q y.q else false) = dq x y := by
  unfold dq eqB
  cases x; cases y
  simp only [Change.mk.injEq, Bool.cond_false_right, Bool.decide_and, Bool.beq_eq_decide_eq, Bool.and_assoc]
def ch_c : Con D := { ts := [.st 3, .st 3], rt := [.bool], ret := fun a => (dq (α := Change) a.1 a.2.1, ()) }
theorem ch161_ok : ch_c.ok Tryz.prog 161 := Con.prove (c := ch_c) EF Ze Ke (H := H0) (n := 2) fun (a : HL D ch_c.ts) (_ : ch_c.holds a) =>
  (congrArg (fun b => some (b, ())) (ch_eq a.1 a.2.1) : some (bif bif bif bif bif a.1.node == a.2.1.node then a.1.view == a.2.1.view else false then a.1.low == a.2.1.low else false then eqB (α := Mark) a.1.marks a.2.1.marks else false then eqB (α := Stand) a.1.p a.2.1.p else false then eqB (α := Stand) a.1.q a.2.1.q else false, ()) = some (dq (α := Change) a.1 a.2.1, ()))
theorem ch43_ok : ch_c.ok Tryz.prog 43 := Con.prove (c := ch_c) EF Ze Ke (H := H0) (n := 2) fun (a : HL D ch_c.ts) (_ : ch_c.holds a) =>
  (congrArg (fun b => some (b, ())) (ch_eq a.1 a.2.1) : some (bif bif bif bif bif a.1.node == a.2.1.node then a.1.view == a.2.1.view else false then a.1.low == a.2.1.low else false then eqB (α := Mark) a.1.marks a.2.1.marks else false then eqB (α := Stand) a.1.p a.2.1.p else false then eqB (α := Stand) a.1.q a.2.1.q else false, ()) = some (dq (α := Change) a.1 a.2.1, ()))
theorem ch23_ok : ch_c.ok Tryz.prog 23 := Con.prove (c := ch_c) EF Ze Ke (H := H0) (n := 2) fun (a : HL D ch_c.ts) (_ : ch_c.holds a) =>
  (congrArg (fun b => some (b, ())) (ch_eq a.1 a.2.1) : some (bif bif bif bif bif a.1.node == a.2.1.node then a.1.view == a.2.1.view else false then a.1.low == a.2.1.low else false then eqB (α := Mark) a.1.marks a.2.1.marks else false then eqB (α := Stand) a.1.p a.2.1.p else false then eqB (α := Stand) a.1.q a.2.1.q else false, ()) = some (dq (α := Change) a.1 a.2.1, ()))
abbrev Γf := addC (addC (addC (addC (addC Γe 204 ws_c) 187 ws2_c) 161 ch_c) 43 ch_c) 23 ch_c
theorem Kf : Kept EF Tryz.prog Γf noO := ((((Ke.c ws_ok).c ws2_ok).c ch161_ok).c ch43_ok).c ch23_ok
noncomputable def Zf : ZF Tryz.prog D := Z0.side Kf
/-! ### 159 -/
def sb_c : Con D := { ts := [.sl (.st 4), .sl (.st 4)], rt := [.bool], ret := fun a => (eqB (α := Wish) a.1 a.2.1, ()) }
theorem sb_ok : sb_c.ok Tryz.prog 159 := Con.prove (c := sb_c) EF Zf Kf (H := fun a f r => match f, r with | 203, 4 => some (.inv (eq_h (α := Wish) a.1 a.2.1 17)) | _, _ => none) (n := 2) fun (a : HL D sb_c.ts) (_ : sb_c.holds a) =>
  brL fun h1 : a.1.length ≤ maxL => brL fun h2 : a.2.1.length ≤ maxL =>
  bq (((a.1.length : Nat) : Int) != ((a.2.1.length : Nat) : Int)) (fun h3 => (by rw [show sb_c.ret a = (eqB (α := Wish) a.1 a.2.1, ()) from rfl, eqN (α := Wish) h3]; rfl : some (false, ()) = some (sb_c.ret a)))
  (fun h3 => have hl := eqLn (α := Wish) (xs := a.1) (ys := a.2.1) h3
  brL fun _ : a.1.length ≤ maxL =>
  And.intro (⟨(0 : Nat), rfl, rfl, rfl, ⟨Nat.zero_le _, rfl⟩⟩ : Ent (eq_h (α := Wish) a.1 a.2.1 17) [iv 0] [] [])
  fun (i : Nat) (hI : i ≤ a.1.length ∧ a.1.take i = a.2.1.take i) =>
  
  bq (decide ((i : Int) < (a.1.length : Int))) (fun h6 => have hi : i < a.1.length := by have := of_decide_eq_true h6; omega
    brN (c := decide ((0 : Int) ≤ (i : Int)) && decide ((i : Int) < (a.1.length : Int))) (by simp; omega) (
    brN (c := decide ((0 : Int) ≤ (i : Int)) && decide ((i : Int) < (a.2.1.length : Int))) (by simp; omega) (
    bq (!dq (α := Wish) (List.getD a.1 (Int.toNat (i : Int)) (Ty.dflt D (.st 4) : Wish)) (List.getD a.2.1 (Int.toNat (i : Int)) (Ty.dflt D (.st 4) : Wish))) (fun h7 =>
      (by rw [show sb_c.ret a = (eqB (α := Wish) a.1 a.2.1, ()) from rfl, eqFl (α := Wish) (i := i) (d := (Ty.dflt D (.st 4) : Wish)) (nde h7)]; rfl : some (false, ()) = some (sb_c.ret a)))
    (fun h7 => eqRnd (α := Wish) (xs := a.1) (ys := a.2.1) (k := 17) (d := (Ty.dflt D (.st 4) : Wish)) hI hi h1 hl (nde0 h7)))))
  (fun h6 => (by rw [show sb_c.ret a = (eqB (α := Wish) a.1 a.2.1, ()) from rfl, eqTr (α := Wish) (i := i) (by have := of_decide_eq_false h6; omega) hl hI]; rfl : some (true, ()) = some (sb_c.ret a))))
/-! ### 148 -/
def al_c : Con D := { ts := [.sl (.st 4), .sl (.st 4)], rt := [.bool], ret := fun a => (eqB (α := Wish) a.1 a.2.1, ()) }
theorem al_ok : al_c.ok Tryz.prog 148 := Con.prove (c := al_c) EF Zf Kf (H := fun a f r => match f, r with | 148, 4 => some (.inv (eq_h (α := Wish) a.1 a.2.1 5)) | _, _ => none) (n := 2) fun (a : HL D al_c.ts) (_ : al_c.holds a) =>
  brL fun h1 : a.1.length ≤ maxL => brL fun h2 : a.2.1.length ≤ maxL =>
  bq (((a.1.length : Nat) : Int) != ((a.2.1.length : Nat) : Int)) (fun h3 => (by rw [show al_c.ret a = (eqB (α := Wish) a.1 a.2.1, ()) from rfl, eqN (α := Wish) h3]; rfl : some (false, ()) = some (al_c.ret a)))
  (fun h3 => have hl := eqLn (α := Wish) (xs := a.1) (ys := a.2.1) h3
  
  And.intro (⟨(0 : Nat), rfl, rfl, rfl, ⟨Nat.zero_le _, rfl⟩⟩ : Ent (eq_h (α := Wish) a.1 a.2.1 5) [iv 0] [] [])
  fun (i : Nat) (hI : i ≤ a.1.length ∧ a.1.take i = a.2.1.take i) =>
  brL fun _ : a.1.length ≤ maxL =>
  bq (decide ((i : Int) < (a.1.length : Int))) (fun h6 => have hi : i < a.1.length := by have := of_decide_eq_true h6; omega
    brN (c := decide ((0 : Int) ≤ (i : Int)) && decide ((i : Int) < (a.1.length : Int))) (by simp; omega) (
    brN (c := decide ((0 : Int) ≤ (i : Int)) && decide ((i : Int) < (a.2.1.length : Int))) (by simp; omega) (
    bq (!dq (α := Wish) (List.getD a.1 (Int.toNat (i : Int)) (Ty.dflt D (.st 4) : Wish)) (List.getD a.2.1 (Int.toNat (i : Int)) (Ty.dflt D (.st 4) : Wish))) (fun h7 =>
      (by rw [show al_c.ret a = (eqB (α := Wish) a.1 a.2.1, ()) from rfl, eqFl (α := Wish) (i := i) (d := (Ty.dflt D (.st 4) : Wish)) (nde h7)]; rfl : some (false, ()) = some (al_c.ret a)))
    (fun h7 => eqRnd (α := Wish) (xs := a.1) (ys := a.2.1) (k := 5) (d := (Ty.dflt D (.st 4) : Wish)) hI hi h1 hl (nde0 h7)))))
  (fun h6 => (by rw [show al_c.ret a = (eqB (α := Wish) a.1 a.2.1, ()) from rfl, eqTr (α := Wish) (i := i) (by have := of_decide_eq_false h6; omega) hl hI]; rfl : some (true, ()) = some (al_c.ret a))))
/-! ### 158 note.same$1 -/
theorem pk_eq (x y : Pick) : (bif bif x.seq == y.seq then decide (x.dig = y.dig) else false then eqB x.batch y.batch else false) = dq x y := by
  unfold dq eqB
  cases x; cases y
  simp only [Pick.mk.injEq, Bool.cond_false_right, Bool.decide_and, Bool.beq_eq_decide_eq, Bool.and_assoc]
def pk_c : Con D := { ts := [.st 6, .st 6], rt := [.bool], ret := fun a => (dq (α := Pick) a.1 a.2.1, ()) }
theorem Kf1 : Kept EF Tryz.prog (addC Γf 159 sb_c) noO := Kf.c sb_ok
theorem pk_ok : pk_c.ok Tryz.prog 158 := Con.prove (c := pk_c) EF (Z0.side Kf1) Kf1 (H := H0) (n := 2) fun (a : HL D pk_c.ts) (_ : pk_c.holds a) =>
  (congrArg (fun b => some (b, ())) (pk_eq a.1 a.2.1) : some (bif bif a.1.seq == a.2.1.seq then decide (a.1.dig = a.2.1.dig) else false then eqB (α := Wish) a.1.batch a.2.1.batch else false, ()) = some (dq (α := Pick) a.1 a.2.1, ()))
abbrev Γg := addC (addC (addC Γf 159 sb_c) 148 al_c) 158 pk_c
theorem Kg : Kept EF Tryz.prog Γg noO := ((Kf.c sb_ok).c al_ok).c pk_ok
noncomputable def Zg : ZF Tryz.prog D := Z0.side Kg
end Go.Proofs.YtpbcabanpppfoaaGreat
