/- Change: equality of wishes, changes, batches, walked by reckoning. No condition. -/
import Derived.Test.YtpbcabanpppfoaaGreatCzE
set_option linter.all false
namespace Go.Proofs.YtpbcabanpppfoaaGreat
open Go Go.Gx Go.Vz
set_option maxRecDepth 100000
abbrev Γe := addC (addC (addC (addC (addC (addC (addC (addC (addC noC 84 eqM_c) 85 eqS_c) 157 eqI_c) 163 eqD_c) 56 eqM2_c) 57 eqS2_c) 107 eqI2_c) 79 eqB2_c) 156 bEq_c
theorem Ke : Kept EF Tryz.prog Γe noO := ((((((((K0.c eqM_ok).c eqS_ok).c eqI_ok).c eqD_ok).c eqM2_ok).c eqS2_ok).c eqI2_ok).c eqB2_ok).c bEq_ok
noncomputable def Ze : ZF Tryz.prog D := Z0.side Ke
def dq {α : Type} [DecidableEq α] (a b : α) : Bool := decide (a = b)
abbrev bqL (a b : List UInt8) : Bool := decide (a = b)
theorem ws_t {x y : Wish} (h : (bif !bqL x.data y.data then true else !eqB x.next y.next) = true) : dq x y = false := by
  rw [dq, decide_eq_false_iff_not]; rintro rfl; simp [eqB] at h
theorem ws_f {x y : Wish} (h : (bif !bqL x.data y.data then true else !eqB x.next y.next) = false) : decide ([x.client, x.stamp, x.group, x.epoch, x.kind, x.block, x.old, x.nw] = [y.client, y.stamp, y.group, y.epoch, y.kind, y.block, y.old, y.nw]) = dq x y := by
  have h1 : x.data = y.data := by by_cases e : x.data = y.data; exact e; simp [e] at h
  have h2 : x.next = y.next := by by_cases e : x.next = y.next; exact e; simp [e, h1, eqB] at h
  rw [dq, decide_eq_decide]
  cases x; cases y
  simp only [Wish.mk.injEq, List.cons.injEq] at *
  simp [h1, h2]
/-! ### 204 wish.Same, 187 bastideref11.Same -/
def ws_c : Con D := { ts := [.st 4, .st 4], rt := [.bool], ret := fun a => (dq (α := Wish) a.1 a.2.1, ()) }
theorem ws_ok : ws_c.ok Tryz.prog 204 := Con.prove (c := ws_c) EF Ze Ke (H := H0) (n := 2) fun (a : HL D ws_c.ts) (_ : ws_c.holds a) =>
  bq (bif !bqL a.1.data a.2.1.data then true else !eqB (α := Int) a.1.next a.2.1.next) (fun h => (by rw [show ws_c.ret a = (dq (α := Wish) a.1 a.2.1, ()) from rfl, ws_t h]; rfl : some (false, ()) = some (ws_c.ret a)))
  (fun h => (by rw [show ws_c.ret a = (dq (α := Wish) a.1 a.2.1, ()) from rfl, ← ws_f h]; rfl : some (decide ([a.1.client, a.1.stamp, a.1.group, a.1.epoch, a.1.kind, a.1.block, a.1.old, a.1.nw] = [a.2.1.client, a.2.1.stamp, a.2.1.group, a.2.1.epoch, a.2.1.kind, a.2.1.block, a.2.1.old, a.2.1.nw]), ()) = some (ws_c.ret a)))
def ws2_c : Con D := { ts := [.st 4, .st 4], rt := [.bool], ret := fun a => (dq (α := Wish) a.1 a.2.1, ()) }
theorem ws2_eq (x y : Wish) : (bif bif bif bif bif bif bif bif bif x.client == y.client then x.stamp == y.stamp else false then x.group == y.group else false then x.epoch == y.epoch else false then x.kind == y.kind else false then x.block == y.block else false then eqB x.data y.data else false then x.old == y.old else false then x.nw == y.nw else false then eqB x.next y.next else false) = dq x y := by
  unfold dq eqB
  cases x; cases y
  simp only [Wish.mk.injEq, Bool.cond_false_right, Bool.decide_and, Bool.beq_eq_decide_eq, Bool.and_assoc]
theorem ws2_ok : ws2_c.ok Tryz.prog 187 := Con.prove (c := ws2_c) EF Ze Ke (H := H0) (n := 2) fun (a : HL D ws2_c.ts) (_ : ws2_c.holds a) =>
  (congrArg (fun b => some (b, ())) (ws2_eq a.1 a.2.1) : some (bif bif bif bif bif bif bif bif bif a.1.client == a.2.1.client then a.1.stamp == a.2.1.stamp else false then a.1.group == a.2.1.group else false then a.1.epoch == a.2.1.epoch else false then a.1.kind == a.2.1.kind else false then a.1.block == a.2.1.block else false then eqB (α := UInt8) a.1.data a.2.1.data else false then a.1.old == a.2.1.old else false then a.1.nw == a.2.1.nw else false then eqB (α := Int) a.1.next a.2.1.next else false, ()) = some (dq (α := Wish) a.1 a.2.1, ()))
/-! ### 161 note.sameChange, 43 change.same, 23 bastideref12.SameChange -/
theorem ch_eq (x y : Change) : (bif bif bif bif bif x.node == y.node then x.view == y.view else false then x.low == y.low else false then eqB x.marks y.marks else false then eqB x.p y.p else false then eqB x.q y.q else false) = dq x y := by
  unfold dq eqB
  cases x; cases y
  simp only [Change.mk.injEq, Bool.cond_false_right, Bool.decide_and, Bool.beq_eq_decide_eq, Bool.and_assoc]
def ch_c : Con D := { ts := [.st 3, .st 3], rt := [.bool], ret := fun a => (dq (α := Change) a.1 a.2.1, ()) }
theorem ch161_ok : ch_c.ok Tryz.prog 161 := Con.prove (c := ch_c) EF Ze Ke (H := H0) (n := 2) fun (a : HL D ch_c.ts) (_ : ch_c.holds a) =>
  (congrArg (fun b => some (b, ())) (ch_eq a.1 a.2.1) : some (bif bif bif bif bif a.1.node == a.2.1.node then a.1.view == a.2.1.view else false then a.1.low == a.2.1.low else false then eqB (α := Mark) a.1.marks a.2.1.marks else false then eqB (α := Stand) a.1.p a.2.1.p else false then eqB (α := Stand) a.1.q a.2.1.q else false, ()) = some (dq (α := Change) a.1 a.2.1, ()))
theorem ch43_ok : ch_c.ok Tryz.prog 43 := Con.prove (c := ch_c) EF Ze Ke (H := H0) (n := 2) fun (a : HL D ch_c.ts) (_ : ch_c.holds a) =>
  (congrArg (fun b => some (b, ())) (ch_eq a.1 a.2.1) : some (bif bif bif bif bif a.1.node == a.2.1.node then a.1.view == a.2.1.view else false then a.1.low == a.2.1.low else false then eqB (α := Mark) a.1.marks a.2.1.marks else false then eqB (α := Stand) a.1.p a.2.1.p else false then eqB (α := Stand) a.1.q a.2.1.q else false, ()) = some (dq (α := Change) a.1 a.2.1, ()))
theorem ch23_ok : ch_c.ok Tryz.prog 23 := Con.prove (c := ch_c) EF Ze Ke (H := H0) (n := 2) fun (a : HL D ch_c.ts) (_ : ch_c.holds a) =>
  (congrArg (fun b => some (b, ())) (ch_eq a.1 a.2.1) : some (bif bif bif bif bif a.1.node == a.2.1.node then a.1.view == a.2.1.view else false then a.1.low == a.2.1.low else false then eqB (α := Mark) a.1.marks a.2.1.marks else false then eqB (α := Stand) a.1.p a.2.1.p else false then eqB (α := Stand) a.1.q a.2.1.q else false, ()) = some (dq (α := Change) a.1 a.2.1, ()))
abbrev Γf := addC (addC (addC (addC (addC Γe 204 ws_c) 187 ws2_c) 161 ch_c) 43 ch_c) 23 ch_c
theorem Kf : Kept EF Tryz.prog Γf noO := ((((Ke.c ws_ok).c ws2_ok).c ch161_ok).c ch43_ok).c ch23_ok
noncomputable def Zf : ZF Tryz.prog D := Z0.side Kf
/-! ### 159 -/
def sb_c : Con D := { ts := [.sl (.st 4), .sl (.st 4)], rt := [.bool], ret := fun a => (eqB (α := Wish) a.1 a.2.1, ()) }
theorem sb_ok : sb_c.ok Tryz.prog 159 := Con.prove (c := sb_c) EF Zf Kf (H := fun a f r => match f, r with | 203, 4 => some (.inv (eq_h (α := Wish) a.1 a.2.1 17)) | _, _ => none) (n := 2) fun (a : HL D sb_c.ts) (_ : sb_c.holds a) =>
  brL fun h1 : a.1.length ≤ maxL => brL fun h2 : a.2.1.length ≤ maxL =>
  bq (((a.1.length : Nat) : Int) != ((a.2.1.length : Nat) : Int)) (fun h3 => (by rw [show sb_c.ret a = (eqB (α := Wish) a.1 a.2.1, ()) from rfl, eqN (α := Wish) h3]; rfl : some (false, ()) = some (sb_c.ret a)))
  (fun h3 => have hl := eqLn (α := Wish) (xs := a.1) (ys := a.2.1) h3
  brL fun _ : a.1.length ≤ maxL =>
  And.intro (⟨(0 : Nat), rfl, rfl, rfl, ⟨Nat.zero_le _, rfl⟩⟩ : Ent (eq_h (α := Wish) a.1 a.2.1 17) [iv 0] [] [])
  fun (i : Nat) (hI : i ≤ a.1.length ∧ a.1.take i = a.2.1.take i) =>
  
  bq (decide ((i : Int) < (a.1.length : Int))) (fun h6 => have hi : i < a.1.length := by have := of_decide_eq_true h6; omega
    brN (c := decide ((0 : Int) ≤ (i : Int)) && decide ((i : Int) < (a.1.length : Int))) (by simp; omega) (
    brN (c := decide ((0 : Int) ≤ (i : Int)) && decide ((i : Int) < (a.2.1.length : Int))) (by simp; omega) (
    bq (!dq (α := Wish) (List.getD a.1 (Int.toNat (i : Int)) (Ty.dflt D (.st 4) : Wish)) (List.getD a.2.1 (Int.toNat (i : Int)) (Ty.dflt D (.st 4) : Wish))) (fun h7 =>
      (by rw [show sb_c.ret a = (eqB (α := Wish) a.1 a.2.1, ()) from rfl, eqFl (α := Wish) (i := i) (d := (Ty.dflt D (.st 4) : Wish)) (nde h7)]; rfl : some (false, ()) = some (sb_c.ret a)))
    (fun h7 => eqRnd (α := Wish) (xs := a.1) (ys := a.2.1) (k := 17) (d := (Ty.dflt D (.st 4) : Wish)) hI hi h1 hl (nde0 h7)))))
  (fun h6 => (by rw [show sb_c.ret a = (eqB (α := Wish) a.1 a.2.1, ()) from rfl, eqTr (α := Wish) (i := i) (by have := of_decide_eq_false h6; omega) hl hI]; rfl : some (true, ()) = some (sb_c.ret a))))
/-! ### 148 -/
def al_c : Con D := { ts := [.sl (.st 4), .sl (.st 4)], rt := [.bool], ret := fun a => (eqB (α := Wish) a.1 a.2.1, ()) }
theorem al_ok : al_c.ok Tryz.prog 148 := Con.prove (c := al_c) EF Zf Kf (H := fun a f r => match f, r with | 148, 4 => some (.inv (eq_h (α := Wish) a.1 a.2.1 5)) | _, _ => none) (n := 2) fun (a : HL D al_c.ts) (_ : al_c.holds a) =>
  brL fun h1 : a.1.length ≤ maxL => brL fun h2 : a.2.1.length ≤ maxL =>
  bq (((a.1.length : Nat) : Int) != ((a.2.1.length : Nat) : Int)) (fun h3 => (by rw [show al_c.ret a = (eqB (α := Wish) a.1 a.2.1, ()) from rfl, eqN (α := Wish) h3]; rfl : some (false, ()) = some (al_c.ret a)))
  (fun h3 => have hl := eqLn (α := Wish) (xs := a.1) (ys := a.2.1) h3
  
  And.intro (⟨(0 : Nat), rfl, rfl, rfl, ⟨Nat.zero_le _, rfl⟩⟩ : Ent (eq_h (α := Wish) a.1 a.2.1 5) [iv 0] [] [])
  fun (i : Nat) (hI : i ≤ a.1.length ∧ a.1.take i = a.2.1.take i) =>
  brL fun _ : a.1.length ≤ maxL =>
  bq (decide ((i : Int) < (a.1.length : Int))) (fun h6 => have hi : i < a.1.length := by have := of_decide_eq_true h6; omega
    brN (c := decide ((0 : Int) ≤ (i : Int)) && decide ((i : Int) < (a.1.length : Int))) (by simp; omega) (
    brN (c := decide ((0 : Int) ≤ (i : Int)) && decide ((i : Int) < (a.2.1.length : Int))) (by simp; omega) (
    bq (!dq (α := Wish) (List.getD a.1 (Int.toNat (i : Int)) (Ty.dflt D (.st 4) : Wish)) (List.getD a.2.1 (Int.toNat (i : Int)) (Ty.dflt D (.st 4) : Wish))) (fun h7 =>
      (by rw [show al_c.ret a = (eqB (α := Wish) a.1 a.2.1, ()) from rfl, eqFl (α := Wish) (i := i) (d := (Ty.dflt D (.st 4) : Wish)) (nde h7)]; rfl : some (false, ()) = some (al_c.ret a)))
    (fun h7 => eqRnd (α := Wish) (xs := a.1) (ys := a.2.1) (k := 5) (d := (Ty.dflt D (.st 4) : Wish)) hI hi h1 hl (nde0 h7)))))
  (fun h6 => (by rw [show al_c.ret a = (eqB (α := Wish) a.1 a.2.1, ()) from rfl, eqTr (α := Wish) (i := i) (by have := of_decide_eq_false h6; omega) hl hI]; rfl : some (true, ()) = some (al_c.ret a))))
/-! ### 158 note.same$1 -/
theorem pk_eq (x y : Pick) : (bif bif x.seq == y.seq then decide (x.dig = y.dig) else false then eqB x.batch y.batch else false) = dq x y := by
  unfold dq eqB
  cases x; cases y
  simp only [Pick.mk.injEq, Bool.cond_false_right, Bool.decide_and, Bool.beq_eq_decide_eq, Bool.and_assoc]
def pk_c : Con D := { ts := [.st 6, .st 6], rt := [.bool], ret := fun a => (dq (α := Pick) a.1 a.2.1, ()) }
theorem Kf1 : Kept EF Tryz.prog (addC Γf 159 sb_c) noO := Kf.c sb_ok
theorem pk_ok : pk_c.ok Tryz.prog 158 := Con.prove (c := pk_c) EF (Z0.side Kf1) Kf1 (H := H0) (n := 2) fun (a : HL D pk_c.ts) (_ : pk_c.holds a) =>
  (congrArg (fun b => some (b, ())) (pk_eq a.1 a.2.1) : some (bif bif a.1.seq == a.2.1.seq then decide (a.1.dig = a.2.1.dig) else false then eqB (α := Wish) a.1.batch a.2.1.batch else false, ()) = some (dq (α := Pick) a.1 a.2.1, ()))
abbrev Γg := addC (addC (addC Γf 159 sb_c) 148 al_c) 158 pk_c
theorem Kg : Kept EF Tryz.prog Γg noO := ((Kf.c sb_ok).c al_ok).c pk_ok
noncomputable def Zg : ZF Tryz.prog D := Z0.side Kg
end Go.Proofs.YtpbcabanpppfoaaGreat

namespace Go.Proofs.YtpbcabanpppfoaaGreat
open Go Go.Gx Go.Vz
set_option maxRecDepth 100000
/-! ### 117 note.same -/
def n1 (x y : Note) : Bool := bif bif bif bif bif bif bif bif bif bif x.kind == y.kind then x.sender == y.sender else false then x.group == y.group else false then x.epoch == y.epoch else false then x.view == y.view else false then x.seq == y.seq else false then decide (x.dig = y.dig) else false then x.stamp == y.stamp else false then x.node == y.node else false then x.level == y.level else false then x.place == y.place else false
def n2 (x y : Answer) : Bool := bif bif bif x.err == y.err then bqL x.data y.data else false then x.epoch == y.epoch else false then eqB x.nodes y.nodes else false
def nA (x y : Note) (z : Bool) : Bool := bif bif bif bif bif bif n1 x y then n2 x.answer y.answer else false then z else false then dq x.change y.change else false then eqB x.digests y.digests else false then bqL x.data y.data else false then eqB x.nodes y.nodes else false
theorem nA_false (x y : Note) : nA x y false = false := by
  unfold nA; simp
theorem nA_true {x y : Note} (h1 : x.batch = y.batch) (h2 : x.changes = y.changes) (h3 : x.picks = y.picks) : nA x y true = dq x y := by
  unfold nA n1 n2 dq eqB
  obtain ⟨_, _, _, _, _, _, _, _, ⟨_, _, _, _⟩, _, _, _, _, _, _, _, _, _, _⟩ := x
  obtain ⟨_, _, _, _, _, _, _, _, ⟨_, _, _, _⟩, _, _, _, _, _, _, _, _, _, _⟩ := y
  simp only [] at h1 h2 h3
  subst h1 h2 h3
  rw [Bool.eq_iff_iff]
  simp only [Bool.cond_false_right, Bool.and_eq_true, beq_iff_eq, decide_eq_true_eq, Note.mk.injEq, Answer.mk.injEq, true_and, and_true]
  constructor
  · rintro ⟨⟨⟨⟨⟨⟨⟨⟨⟨⟨⟨⟨⟨⟨⟨a1, a2⟩, a3⟩, a4⟩, a5⟩, a6⟩, a7⟩, a8⟩, a9⟩, a10⟩, a11⟩, ⟨⟨b1, b2⟩, b3⟩, b4⟩, a12⟩, a13⟩, a14⟩, a15⟩
    exact ⟨a1, a2, a3, a4, a5, a6, a7, ⟨b1, b2, b3, b4⟩, a8, a9, a12, a10, a11, a13, a14, a15⟩
  · rintro ⟨a1, a2, a3, a4, a5, a6, a7, ⟨b1, b2, b3, b4⟩, a8, a9, a12, a10, a11, a13, a14, a15⟩
    exact ⟨⟨⟨⟨⟨⟨⟨⟨⟨⟨⟨⟨⟨⟨⟨a1, a2⟩, a3⟩, a4⟩, a5⟩, a6⟩, a7⟩, a8⟩, a9⟩, a10⟩, a11⟩, ⟨⟨b1, b2⟩, b3⟩, b4⟩, a12⟩, a13⟩, a14⟩, a15⟩
def ns_c : Con D := { ts := [.st 7, .st 7], rt := [.bool], ret := fun a => (dq (α := Note) a.1 a.2.1, ()) }
theorem ns_no {x y : Note} (h : x ≠ y) : some (nA x y false, ()) = some (dq x y, ()) := by
  rw [nA_false, dq, decide_eq_false h]
abbrev nsH (a : HL D ns_c.ts) : Nat → Nat → Option (Hint D) := fun f r => match f, r with
  | 160, 4 => some (.inv (eq_h (α := Change) a.1.changes a.2.1.changes 17))
  | 162, 4 => some (.inv (eq_h (α := Pick) a.1.picks a.2.1.picks 17))
  | _, _ => none
theorem eqB_ne {α : Type} [DecidableEq α] {xs ys : List α} (h : eqB xs ys = false) : xs ≠ ys := by unfold eqB at h; simpa using h
theorem eqB_eq {α : Type} [DecidableEq α] {xs ys : List α} (h : eqB xs ys = true) : xs = ys := by unfold eqB at h; simpa using h
theorem ns_ok : ns_c.ok Tryz.prog 117 := Con.prove (c := ns_c) EF Zg Kg (H := nsH) (n := 2) fun (a : HL D ns_c.ts) (_ : ns_c.holds a) =>
  both (bq (eqB (α := Wish) a.1.batch a.2.1.batch) (fun h1 =>
  brL fun m1 : a.1.changes.length ≤ maxL => brL fun m2 : a.2.1.changes.length ≤ maxL =>
  bq (((a.1.changes.length : Nat) : Int) != ((a.2.1.changes.length : Nat) : Int)) (fun h3 => (ns_no fun e => eqB_ne (eqN h3) (congrArg Note.changes e) : some (nA a.1 a.2.1 false, ()) = some (dq (α := Note) a.1 a.2.1, ())))
  (fun h3 => have hl := eqLn (α := Change) (xs := a.1.changes) (ys := a.2.1.changes) h3
  brL fun _ : a.1.changes.length ≤ maxL =>
  And.intro (⟨(0 : Nat), rfl, rfl, rfl, ⟨Nat.zero_le _, rfl⟩⟩ : Ent (eq_h (α := Change) a.1.changes a.2.1.changes 17) [iv 0] [] [])
  fun (i : Nat) (hI : i ≤ a.1.changes.length ∧ a.1.changes.take i = a.2.1.changes.take i) =>
  bq (decide ((i : Int) < (a.1.changes.length : Int))) (fun h6 => have hi : i < a.1.changes.length := by have := of_decide_eq_true h6; omega
    brN (c := decide ((0 : Int) ≤ (i : Int)) && decide ((i : Int) < (a.1.changes.length : Int))) (by simp; omega) (
    brN (c := decide ((0 : Int) ≤ (i : Int)) && decide ((i : Int) < (a.2.1.changes.length : Int))) (by simp; omega) (
    bq (!dq (α := Change) (a.1.changes.getD (Int.toNat (i : Int)) (Ty.dflt D (.st 3) : Change)) (a.2.1.changes.getD (Int.toNat (i : Int)) (Ty.dflt D (.st 3) : Change)))
    (fun h7 => (ns_no fun e => eqB_ne (eqFl (α := Change) (i := i) (d := (Ty.dflt D (.st 3) : Change)) (nde h7)) (congrArg Note.changes e) : some (nA a.1 a.2.1 false, ()) = some (dq (α := Note) a.1 a.2.1, ())))
    (fun h7 => eqRnd (α := Change) (xs := a.1.changes) (ys := a.2.1.changes) (k := 17) (d := (Ty.dflt D (.st 3) : Change)) hI hi m1 hl (nde0 h7)))))
  (fun h6 => have g1 : a.1.changes = a.2.1.changes := eqB_eq (eqTr (α := Change) (i := i) (by have := of_decide_eq_false h6; omega) hl hI)
  brL fun m1 : a.1.picks.length ≤ maxL => brL fun m2 : a.2.1.picks.length ≤ maxL =>
  bq (((a.1.picks.length : Nat) : Int) != ((a.2.1.picks.length : Nat) : Int)) (fun h3 => (ns_no fun e => eqB_ne (eqN h3) (congrArg Note.picks e) : some (nA a.1 a.2.1 false, ()) = some (dq (α := Note) a.1 a.2.1, ())))
  (fun h3 => have hl := eqLn (α := Pick) (xs := a.1.picks) (ys := a.2.1.picks) h3
  brL fun _ : a.1.picks.length ≤ maxL =>
  And.intro (⟨(0 : Nat), rfl, rfl, rfl, ⟨Nat.zero_le _, rfl⟩⟩ : Ent (eq_h (α := Pick) a.1.picks a.2.1.picks 17) [iv 0] [] [])
  fun (i : Nat) (hI : i ≤ a.1.picks.length ∧ a.1.picks.take i = a.2.1.picks.take i) =>
  bq (decide ((i : Int) < (a.1.picks.length : Int))) (fun h6 => have hi : i < a.1.picks.length := by have := of_decide_eq_true h6; omega
    brN (c := decide ((0 : Int) ≤ (i : Int)) && decide ((i : Int) < (a.1.picks.length : Int))) (by simp; omega) (
    brN (c := decide ((0 : Int) ≤ (i : Int)) && decide ((i : Int) < (a.2.1.picks.length : Int))) (by simp; omega) (
    bq (!dq (α := Pick) (a.1.picks.getD (Int.toNat (i : Int)) (Ty.dflt D (.st 6) : Pick)) (a.2.1.picks.getD (Int.toNat (i : Int)) (Ty.dflt D (.st 6) : Pick)))
    (fun h7 => (ns_no fun e => eqB_ne (eqFl (α := Pick) (i := i) (d := (Ty.dflt D (.st 6) : Pick)) (nde h7)) (congrArg Note.picks e) : some (nA a.1 a.2.1 false, ()) = some (dq (α := Note) a.1 a.2.1, ())))
    (fun h7 => eqRnd (α := Pick) (xs := a.1.picks) (ys := a.2.1.picks) (k := 17) (d := (Ty.dflt D (.st 6) : Pick)) hI hi m1 hl (nde0 h7)))))
  (fun h6 => have g2 : a.1.picks = a.2.1.picks := eqB_eq (eqTr (α := Pick) (i := i) (by have := of_decide_eq_false h6; omega) hl hI)
    (congrArg (fun b => some (b, ())) (nA_true (eqB_eq h1) g1 g2) : some (nA a.1 a.2.1 true, ()) = some (dq (α := Note) a.1 a.2.1, ())))))))
  (fun h1 => (ns_no fun e => eqB_ne h1 (congrArg Note.batch e) : some (nA a.1 a.2.1 false, ()) = some (dq (α := Note) a.1 a.2.1, ()))))
/-! ### 108 bastideref12.sameLists, 70 Same -/
def slB (x y : Note) : Bool := eqB x.changes y.changes && (eqB x.picks y.picks && (eqB x.digests y.digests && (eqB x.batch y.batch && (eqB x.data y.data && eqB x.nodes y.nodes))))
def sl_c : Con D := { ts := [.st 7, .st 7], rt := [.bool], ret := fun a => (slB a.1 a.2.1, ()) }
abbrev slH (a : HL D ns_c.ts) : Nat → Nat → Option (Hint D) := fun f r => match f, r with
  | 108, 4 => some (.inv (eq_h (α := Change) a.1.changes a.2.1.changes 5))
  | 108, 9 => some (.inv (eq_h (α := Pick) a.1.picks a.2.1.picks 6))
  | 108, 15 => some (.inv (eq_h (α := Dig) a.1.digests a.2.1.digests 9))
  | _, _ => none
theorem sl_no {x y : Note} (h : slB x y = false) : some (false, ()) = some (slB x y, ()) := by rw [h]
theorem pk_ne {x y : Pick} : (bif bif x.seq != y.seq then true else !decide (x.dig = y.dig) then true else !eqB x.batch y.batch) = !dq x y := by
  unfold dq eqB
  cases x; cases y
  simp only [Pick.mk.injEq]
  rw [Bool.eq_iff_iff]
  simp only [Bool.cond_true_left, Bool.or_eq_true, bne_iff_ne, ne_eq, Bool.not_eq_true', decide_eq_false_iff_not]
  constructor
  · rintro ((h | h) | h) ⟨h1, h2, h3⟩ <;> first | exact h h1 | exact h h2 | exact h h3
  · intro h
    refine Classical.byContradiction fun k => h ?_
    simp only [not_or, Decidable.not_not] at k
    exact ⟨k.1.1, k.1.2, k.2⟩
theorem sl_ln {x y : Note} (h : (bif bif ((x.changes.length : Nat) : Int) != ((y.changes.length : Nat) : Int) then true else ((x.picks.length : Nat) : Int) != ((y.picks.length : Nat) : Int) then true else ((x.digests.length : Nat) : Int) != ((y.digests.length : Nat) : Int)) = true) : slB x y = false := by
  have : ¬ (slB x y = true) := fun hs => by
    unfold slB eqB at hs
    simp only [Bool.and_eq_true, decide_eq_true_eq] at hs
    obtain ⟨h1, h2, h3, _⟩ := hs
    rw [h1, h2, h3] at h
    simp at h
  simpa using this
theorem sl_le {x y : Note} (h : (bif bif ((x.changes.length : Nat) : Int) != ((y.changes.length : Nat) : Int) then true else ((x.picks.length : Nat) : Int) != ((y.picks.length : Nat) : Int) then true else ((x.digests.length : Nat) : Int) != ((y.digests.length : Nat) : Int)) = false) : x.changes.length = y.changes.length ∧ x.picks.length = y.picks.length ∧ x.digests.length = y.digests.length := by
  simp only [Bool.cond_true_left, Bool.or_eq_false_iff, bne_eq_false_iff_eq] at h
  omega
theorem sl_ok : sl_c.ok Tryz.prog 108 := Con.prove (c := sl_c) EF Zg Kg (H := slH) (n := 2) fun (a : HL D sl_c.ts) (_ : sl_c.holds a) =>
  brL fun m1 : a.1.changes.length ≤ maxL => brL fun m2 : a.2.1.changes.length ≤ maxL =>
  bq (bif bif ((a.1.changes.length : Nat) : Int) != ((a.2.1.changes.length : Nat) : Int) then true else ((a.1.picks.length : Nat) : Int) != ((a.2.1.picks.length : Nat) : Int) then true else ((a.1.digests.length : Nat) : Int) != ((a.2.1.digests.length : Nat) : Int))
  (fun h3 => (sl_no (sl_ln h3) : some (false, ()) = some (slB a.1 a.2.1, ())))
  (fun h3 => have hl := (sl_le h3).1
  And.intro (⟨(0 : Nat), rfl, rfl, rfl, ⟨Nat.zero_le _, rfl⟩⟩ : Ent (eq_h (α := Change) a.1.changes a.2.1.changes 5) [iv 0] [] [])
  fun (i : Nat) (hI : i ≤ a.1.changes.length ∧ a.1.changes.take i = a.2.1.changes.take i) =>
  brL fun _ : a.1.changes.length ≤ maxL =>
  bq (decide ((i : Int) < (a.1.changes.length : Int))) (fun h6 => have hi : i < a.1.changes.length := by have := of_decide_eq_true h6; omega
    brN (c := decide ((0 : Int) ≤ (i : Int)) && decide ((i : Int) < (a.1.changes.length : Int))) (by simp; omega) (
    brN (c := decide ((0 : Int) ≤ (i : Int)) && decide ((i : Int) < (a.2.1.changes.length : Int))) (by simp; omega) (
    bq (!dq (α := Change) (a.1.changes.getD (Int.toNat (i : Int)) (Ty.dflt D (.st 3) : Change)) (a.2.1.changes.getD (Int.toNat (i : Int)) (Ty.dflt D (.st 3) : Change)))
    (fun h7 => (sl_no (by unfold slB; rw [eqFl (α := Change) (i := i) (d := (Ty.dflt D (.st 3) : Change)) (nde h7)]; rfl) : some (false, ()) = some (slB a.1 a.2.1, ())))
    (fun h7 => eqRnd (α := Change) (xs := a.1.changes) (ys := a.2.1.changes) (k := 5) (d := (Ty.dflt D (.st 3) : Change)) hI hi m1 hl (nde0 h7)))))
  (fun h6 => have g1 := eqTr (α := Change) (i := i) (xs := a.1.changes) (ys := a.2.1.changes) (by have := of_decide_eq_false h6; omega) hl hI
  have hl := (sl_le h3).2.1
  And.intro (⟨(0 : Nat), rfl, rfl, rfl, ⟨Nat.zero_le _, rfl⟩⟩ : Ent (eq_h (α := Pick) a.1.picks a.2.1.picks 6) [iv 0] [] [])
  fun (i : Nat) (hI : i ≤ a.1.picks.length ∧ a.1.picks.take i = a.2.1.picks.take i) =>
  brL fun m1 : a.1.picks.length ≤ maxL =>
  bq (decide ((i : Int) < (a.1.picks.length : Int))) (fun h6 => have hi : i < a.1.picks.length := by have := of_decide_eq_true h6; omega
    brN (c := decide ((0 : Int) ≤ (i : Int)) && decide ((i : Int) < (a.1.picks.length : Int))) (by simp; omega) (
    brN (c := decide ((0 : Int) ≤ (i : Int)) && decide ((i : Int) < (a.2.1.picks.length : Int))) (by simp; omega) (
    both (bq (bif bif (a.1.picks.getD (Int.toNat (i : Int)) (Ty.dflt D (.st 6) : Pick)).seq != (a.2.1.picks.getD (Int.toNat (i : Int)) (Ty.dflt D (.st 6) : Pick)).seq then true else !decide ((a.1.picks.getD (Int.toNat (i : Int)) (Ty.dflt D (.st 6) : Pick)).dig = (a.2.1.picks.getD (Int.toNat (i : Int)) (Ty.dflt D (.st 6) : Pick)).dig) then true else !eqB (α := Wish) (a.1.picks.getD (Int.toNat (i : Int)) (Ty.dflt D (.st 6) : Pick)).batch (a.2.1.picks.getD (Int.toNat (i : Int)) (Ty.dflt D (.st 6) : Pick)).batch)
    (fun h7 => (sl_no (by unfold slB; rw [eqFl (α := Pick) (i := i) (d := (Ty.dflt D (.st 6) : Pick)) (nde (by rw [pk_ne] at h7; exact h7)), Bool.false_and, Bool.and_false]) : some (false, ()) = some (slB a.1 a.2.1, ())))
    (fun h7 => eqRnd (α := Pick) (xs := a.1.picks) (ys := a.2.1.picks) (k := 6) (d := (Ty.dflt D (.st 6) : Pick)) hI hi m1 hl (nde0 (by rw [pk_ne] at h7; exact h7)))))))
  (fun h6 => have g2 := eqTr (α := Pick) (i := i) (xs := a.1.picks) (ys := a.2.1.picks) (by have := of_decide_eq_false h6; omega) hl hI
  have hl := (sl_le h3).2.2
  And.intro (⟨(0 : Nat), rfl, rfl, rfl, ⟨Nat.zero_le _, rfl⟩⟩ : Ent (eq_h (α := Dig) a.1.digests a.2.1.digests 9) [iv 0] [] [])
  fun (i : Nat) (hI : i ≤ a.1.digests.length ∧ a.1.digests.take i = a.2.1.digests.take i) =>
  brL fun m1 : a.1.digests.length ≤ maxL =>
  bq (decide ((i : Int) < (a.1.digests.length : Int))) (fun h6 => have hi : i < a.1.digests.length := by have := of_decide_eq_true h6; omega
    brN (c := decide ((0 : Int) ≤ (i : Int)) && decide ((i : Int) < (a.1.digests.length : Int))) (by simp; omega) (
    brN (c := decide ((0 : Int) ≤ (i : Int)) && decide ((i : Int) < (a.2.1.digests.length : Int))) (by simp; omega) (
    bq (!decide ((a.1.digests.getD (Int.toNat (i : Int)) (Ty.dflt D .dig : Dig)) = (a.2.1.digests.getD (Int.toNat (i : Int)) (Ty.dflt D .dig : Dig))))
    (fun h7 => (sl_no (by unfold slB; rw [eqFl (α := Dig) (i := i) (d := (Ty.dflt D .dig : Dig)) (nde h7), Bool.false_and, Bool.and_false, Bool.and_false]) : some (false, ()) = some (slB a.1 a.2.1, ())))
    (fun h7 => eqRnd (α := Dig) (xs := a.1.digests) (ys := a.2.1.digests) (k := 9) (d := (Ty.dflt D .dig : Dig)) hI hi m1 hl (nde0 h7)))))
  (fun h6 => have g3 := eqTr (α := Dig) (i := i) (xs := a.1.digests) (ys := a.2.1.digests) (by have := of_decide_eq_false h6; omega) hl hI
    (by rw [slB, g1, g2, g3]; simp only [Bool.cond_false_right, Bool.true_and, Bool.and_assoc] : some (bif bif eqB (α := Wish) a.1.batch a.2.1.batch then eqB (α := UInt8) a.1.data a.2.1.data else false then eqB (α := Int) a.1.nodes a.2.1.nodes else false, ()) = some (slB a.1 a.2.1, ()))))))
def rs_c : Con D := { ts := [.st 7, .st 7], rt := [.bool], ret := fun a => (dq (α := Note) a.1 a.2.1, ()) }
def m1 (x y : Note) : Bool := bif bif bif bif bif bif bif bif bif bif x.kind != y.kind then true else x.sender != y.sender then true else x.group != y.group then true else x.epoch != y.epoch then true else x.view != y.view then true else x.seq != y.seq then true else !decide (x.dig = y.dig) then true else x.stamp != y.stamp then true else x.node != y.node then true else x.level != y.level then true else x.place != y.place
def m2 (x y : Answer) : Bool := bif bif bif x.err != y.err then true else !eqB x.data y.data then true else x.epoch != y.epoch then true else !eqB x.nodes y.nodes
theorem rs_eq (x y : Note) : (bif m1 x y then false else bif m2 x.answer y.answer then false else bif dq x.change y.change then slB x y else false) = dq x y := by
  unfold m1 m2 slB dq eqB
  obtain ⟨_, _, _, _, _, _, _, _, ⟨_, _, _, _⟩, _, _, _, _, _, _, _, _, _, _⟩ := x
  obtain ⟨_, _, _, _, _, _, _, _, ⟨_, _, _, _⟩, _, _, _, _, _, _, _, _, _, _⟩ := y
  rw [Bool.eq_iff_iff]
  simp only [Bool.cond_true_left, Bool.cond_false_left, Bool.cond_false_right, Bool.and_eq_true, Bool.not_eq_true', Bool.or_eq_false_iff, bne_eq_false_iff_eq, Bool.not_eq_false', decide_eq_true_eq, Note.mk.injEq, Answer.mk.injEq]
  constructor
  · rintro ⟨⟨⟨⟨⟨⟨⟨⟨⟨⟨⟨a1, a2⟩, a3⟩, a4⟩, a5⟩, a6⟩, a7⟩, a8⟩, a9⟩, a10⟩, a11⟩, ⟨⟨⟨b1, b2⟩, b3⟩, b4⟩, a12, c1, c2, a13, c3, a14, a15⟩
    exact ⟨a1, a2, a3, a4, a5, a6, a7, c3, ⟨b1, b2, b3, b4⟩, a8, a9, a12, c1, c2, a10, a11, a13, a14, a15⟩
  · rintro ⟨a1, a2, a3, a4, a5, a6, a7, c3, ⟨b1, b2, b3, b4⟩, a8, a9, a12, c1, c2, a10, a11, a13, a14, a15⟩
    exact ⟨⟨⟨⟨⟨⟨⟨⟨⟨⟨⟨a1, a2⟩, a3⟩, a4⟩, a5⟩, a6⟩, a7⟩, a8⟩, a9⟩, a10⟩, a11⟩, ⟨⟨⟨b1, b2⟩, b3⟩, b4⟩, a12, c1, c2, a13, c3, a14, a15⟩
theorem Kg1 : Kept EF Tryz.prog (addC Γg 108 sl_c) noO := Kg.c sl_ok
theorem rs_f {x y : Note} {b : Bool} (h : (bif m1 x y then false else bif m2 x.answer y.answer then false else bif dq x.change y.change then slB x y else false) = b) : some (b, ()) = some (dq x y, ()) := by rw [← rs_eq, h]
theorem rs_ok : rs_c.ok Tryz.prog 70 := Con.prove (c := rs_c) EF (Z0.side Kg1) Kg1 (H := H0) (n := 2) fun (a : HL D rs_c.ts) (_ : rs_c.holds a) =>
  bq (m1 a.1 a.2.1) (fun h1 => (rs_f (by rw [h1]; rfl) : some (false, ()) = some (dq (α := Note) a.1 a.2.1, ())))
  (fun h1 => both (bq (m2 a.1.answer a.2.1.answer) (fun h2 => (rs_f (by rw [h1, h2]; rfl) : some (false, ()) = some (dq (α := Note) a.1 a.2.1, ())))
  (fun h2 => (rs_f (by rw [h1, h2]; rfl) : some (bif dq (α := Change) a.1.change a.2.1.change then slB a.1 a.2.1 else false, ()) = some (dq (α := Note) a.1 a.2.1, ())))))
abbrev Γh := addC (addC (addC Γg 108 sl_c) 70 rs_c) 117 ns_c
theorem Kh : Kept EF Tryz.prog Γh noO := (Kg1.c rs_ok).c ns_ok
noncomputable def Zh : ZF Tryz.prog D := Z0.side Kh
end Go.Proofs.YtpbcabanpppfoaaGreat
