/- A part of the proof. No condition. -/
import Derived.Test.YtpbcabanpppfoaaGreatA11
set_option linter.all false
namespace Go.Proofs.YtpbcabanpppfoaaGreat
open Go Go.Gx Go.Vz
open Go.IntKind (wrap)
open List (flatMap getD length take replicate)
set_option maxRecDepth 100000
noncomputable section
section
variable {l : List i6} {low view many : Int} {i : Nat}
open Classical in
def a6v (hi : i < l.length) (h : ¬ okP l low view many i) : b2c l low view many = false := by
 unfold b2c; exact E5 fun hh => h (hh i hi)
open Classical in
def f8m (h : ∀ i, i < l.length -> okP l low view many i) : b2c l low view many = true := by
 unfold b2c; exact F6 h
def f0u {c : List (Int × Int)} {k x v : Int} : cnt (j6 (E := D) .int .int c k v) x = if k = x then v else cnt c x := by
 have := @a5z Int Int (Ty.dec D .int) c k x v
 show (a0f (E := D) .int .int (j6 (E := D) .int .int c k v) x).getD 0 = _
 rw [show a0f (E := D) .int .int (j6 (E := D) .int .int c k v) x = _ from this]
 by_cases h : k = x
 ·rw [F8 h, F8 h]; rfl
 ·rw [F7 h, F7 h]; rfl
def d6j {c : List (Mark × Int)} {k x : Mark} {v : Int} : sen (j6 (E := D) (.st 1) .int c k v) x = if k = x then v else sen c x := by
 have := @a5z Mark Int (Ty.dec D (.st 1)) c k x v
 show (a0f (E := D) (.st 1) .int (j6 (E := D) (.st 1) .int c k v) x).getD 0 = _
 rw [show a0f (E := D) (.st 1) .int (j6 (E := D) (.st 1) .int c k v) x = _ from this]
 by_cases h : k = x
 ·rw [F8 h, F8 h]; rfl
 ·rw [F7 h, F7 h]; rfl
def b1g (hi : i < l.length) (p : i6 -> Bool) : (l.take (i + 1)).countP p = (l.take i).countP p + (if p (stA l i) then 1 else 0) := by
 have : stA l i = l[i] := by unfold stA; rw [B3, B2 hi]; rfl
 rw [D9 hi, M3, this, M7, List.countP_nil]
 simp
def d0i (hi : i < l.length) (hl : l.length <= d4) (p : i6 -> Bool) : wrap .i64 ((((l.take i).countP p : Nat) : Int) + 1) = (((l.take i).countP p + 1 : Nat) : Int) := by
 have : (l.take i).countP p <= i := D5 O7 (by rw [C4]; omega)
 unfold d4 at hl
 rw [IntWalk.i64_in _ (by omega)]; omega
def e5q {c : List (Int × Int)} (hi : i < l.length) (hl : l.length <= d4) (h : ∀ x, cnt c x = (((l.take i).countP fun s => decide (s.seq = x) : Nat) : Int)) (x : Int) : cnt (j6 (E := D) .int .int c (stA l i).seq (wrap .i64 (cnt c (stA l i).seq + 1))) x = (((l.take (i + 1)).countP fun s => decide (s.seq = x) : Nat) : Int) := by
 rw [f0u, b1g hi]
 by_cases e : (stA l i).seq = x
 ·rw [F8 e, h, d0i hi hl, e]; simp
 ·rw [F7 e, h]; have hz : (if (decide ((stA l i).seq = x)) = true then 1 else 0) = 0 := by rw [E5 e]; rfl
  show (((l.take i).countP fun s => decide (s.seq = x) : Nat) : Int) = (((l.take i).countP fun s => decide (s.seq = x)) + (if (decide ((stA l i).seq = x)) = true then 1 else 0) : Nat); rw [hz, N5]
def e5r {s : List (Mark × Int)} (hi : i < l.length) (hl : l.length <= d4) (h : ∀ x, sen s x = (((l.take i).countP fun s => decide (mkS s = x) : Nat) : Int)) (x : Mark) : sen (j6 (E := D) (.st 1) .int s (mkS (stA l i)) (wrap .i64 (sen s (mkS (stA l i)) + 1))) x = (((l.take (i + 1)).countP fun s => decide (mkS s = x) : Nat) : Int) := by
 rw [d6j, b1g hi]
 by_cases e : mkS (stA l i) = x
 ·rw [F8 e, h, d0i hi hl, e]; simp
 ·rw [F7 e, h]; have hz : (if (decide (mkS (stA l i) = x)) = true then 1 else 0) = 0 := by rw [E5 e]; rfl
  show (((l.take i).countP fun s => decide (mkS s = x) : Nat) : Int) = (((l.take i).countP fun s => decide (mkS s = x)) + (if (decide (mkS (stA l i) = x)) = true then 1 else 0) : Nat); rw [hz, N5]
def d0j {s : List (Mark × Int)} {m x : Mark} : sen (j6 (E := D) (.st 1) .int s m (sen s m)) x = sen s x := by
 rw [d6j]
 by_cases e : m = x
 ·rw [F8 e, e]
 ·rw [F7 e]
end
def g5c : a7d.ok Tp 166 := Con.proveH (c := a7d) EF ZL (H := spH) (call := fun a => a3q EF ZL (fun _ => none) Γor noO (spH a) 2) (fun a => a0q a0r.nil Kor 2) fun (a : HL D a7d.ts) (hp : a7d.holds a) =>
 have hp : 0 <= a.2.1.low /\ a.2.1.low <= 9007199254740983 /\ 1 <= a.2.1.view /\ a.2.1.view <= 1048576 := hp
 have eL1 : wrap .i64 (a.2.1.low + 1) = a.2.1.low + 1 := by rw [IntWalk.i64_in _ (by omega)]
 have eL8 : wrap .i64 (a.2.1.low + 8) = a.2.1.low + 8 := by rw [IntWalk.i64_in _ (by omega)]
 have eV : wrap .i64 (a.2.1.view - 1) = a.2.1.view - 1 := by rw [IntWalk.i64_in _ (by omega)]
 brL fun hl : a.1.length <= d4 =>
 And.intro (⟨((0 : Nat), [], []), rfl, rfl, rfl, ⟨C0 _, fun _ => rfl, fun _ => rfl, fun k hk => absurd hk (Q7 _)⟩⟩ : Ent (d9c a.1 a.2.1.low a.2.1.view a.2.2.1) [SV.i .i64 0] [] [.map .int .int [], .map (.st 1) .int []]) (
 fun (i : Nat × List (Int × Int) × List (Mark × Int)) (hI : i.1 <= a.1.length /\ (∀ x, cnt i.2.1 x = (((a.1.take i.1).countP fun s => decide (s.seq = x) : Nat) : Int)) /\ (∀ x, sen i.2.2 x = (((a.1.take i.1).countP fun s => decide (mkS s = x) : Nat) : Int)) /\ ∀ k, k < i.1 -> okP a.1 a.2.1.low a.2.1.view a.2.2.1 k) =>
 bq (decide ((i.1 : Int) < (a.1.length : Nat))) (fun h3 =>
 have hi : i.1 < a.1.length := by have := A6 h3; omega
 have hc := e5q hi hl hI.2.1
 have hs0 : ∀ x, sen (j6 (E := D) (.st 1) .int i.2.2 (mkS (stA a.1 i.1)) (sen i.2.2 (mkS (stA a.1 i.1)))) x = (((a.1.take i.1).countP fun s => decide (mkS s = x) : Nat) : Int) := fun x => by rw [d0j]; exact hI.2.2.1 x
 have hsB := e5r hi hl hs0
 have hsA : ∀ x, sen (j6 (E := D) (.st 1) .int (j6 (E := D) (.st 1) .int i.2.2 (mkS (stA a.1 i.1)) (sen i.2.2 (mkS (stA a.1 i.1)))) (mkS (stA a.1 i.1)) (wrap .i64 (sen i.2.2 (mkS (stA a.1 i.1)) + (1 : Int)))) x = (((a.1.take (i.1 + 1)).countP fun s => decide (mkS s = x) : Nat) : Int) := fun x => by
  have := hsB x; rw [d0j] at this; exact this
 bN (iX (i.1 : Int) ((a.1.length : Nat) : Int)) (ltC hi) (
 And.intro (bq (!bif decide (wrap .i64 (a.2.1.low + 1) <= (stA a.1 i.1).seq) then decide ((stA a.1 i.1).seq <= wrap .i64 (a.2.1.low + 8)) else false) (fun h4 => (congrArg (fun q : Bool => some (q, ())) (a6v hi fun r => rgT h4 (by rw [eL1, eL8]; have := r.a; have := r.b; omega)).symm : some (false, ()) = some (a7d.ret a))) (fun h4 =>
 bq (!bif decide (0 <= (stA a.1 i.1).view) then decide ((stA a.1 i.1).view <= wrap .i64 (a.2.1.view - 1)) else false) (fun h5 => (congrArg (fun q : Bool => some (q, ())) (a6v hi fun r => rgT h5 (by rw [eV]; have := r.c; have := r.d; omega)).symm : some (false, ()) = some (a7d.ret a))) (fun h5 =>
 have R : a.2.1.low < (stA a.1 i.1).seq /\ (stA a.1 i.1).seq <= a.2.1.low + 8 /\ 0 <= (stA a.1 i.1).view /\ (stA a.1 i.1).view < a.2.1.view := by
  have g4 := rgF h4; have g5 := rgF h5; rw [eL1, eL8] at g4; rw [eV] at g5; omega
 bq (decide (0 < (i.1 : Int))) (fun h6 =>
 have h0 : 0 < i.1 := by have := A6 h6; omega
 have eP : (wrap .i64 ((i.1 : Int) - 1)) = ((i.1 - 1 : Nat) : Int) := by unfold d4 at hl; rw [IntWalk.i64_in _ (by omega)]; omega
 have eY : (stA a.1 (wrap .i64 ((i.1 : Int) - 1)).toNat) = stA a.1 (i.1 - 1) := by rw [eP, G6]
 bN (iX (wrap .i64 ((i.1 : Int) - 1)) ((a.1.length : Nat) : Int)) (by rw [eP]; exact ltC (by omega)) (
 bq (decide (0 <= b5y (stA a.1 (wrap .i64 ((i.1 : Int) - 1)).toNat) (stA a.1 i.1))) (fun h7 => (congrArg (fun q : Bool => some (q, ())) (a6v hi fun r => by have h := A6 h7; rw [eY] at h; have := b8j.2 (r.e h0); omega).symm : some (false, ()) = some (a7d.ret a))) (fun h7 =>
 have h7 : sLt (stA a.1 (i.1 - 1)) (stA a.1 i.1) = true := by have h := A9 h7; rw [eY] at h; exact b8j.1 (by omega)
 bq (decide (@LT.lt Int _ a.2.2.1 (cnt (j6 (E := D) .int .int i.2.1 (stA a.1 i.1).seq (wrap .i64 (cnt i.2.1 (stA a.1 i.1).seq + 1))) (stA a.1 i.1).seq))) (fun h8 => (congrArg (fun q : Bool => some (q, ())) (a6v hi fun r => by have h := A6 h8; rw [hc] at h; have := r.f; omega).symm : some (false, ()) = some (a7d.ret a))) (fun h8 =>
 bq (decide (1 < sen (j6 (E := D) (.st 1) .int (j6 (E := D) (.st 1) .int i.2.2 (mkS (stA a.1 i.1)) (sen i.2.2 (mkS (stA a.1 i.1)))) (mkS (stA a.1 i.1)) (wrap .i64 (sen i.2.2 (mkS (stA a.1 i.1)) + (1 : Int)))) (mkS (stA a.1 i.1)))) (fun h9 => (congrArg (fun q : Bool => some (q, ())) (a6v hi fun r => by have h := A6 h9; rw [hsA] at h; have := r.g; omega).symm : some (false, ()) = some (a7d.ret a))) (fun h9 =>
 (⟨(i.1 + 1, (j6 (E := D) .int .int i.2.1 (stA a.1 i.1).seq (wrap .i64 (cnt i.2.1 (stA a.1 i.1).seq + 1))), (j6 (E := D) (.st 1) .int (j6 (E := D) (.st 1) .int i.2.2 (mkS (stA a.1 i.1)) (sen i.2.2 (mkS (stA a.1 i.1)))) (mkS (stA a.1 i.1)) (wrap .i64 (sen i.2.2 (mkS (stA a.1 i.1)) + (1 : Int))))), by
   show [SV.i .i64 (wrap .i64 ((i.1 : Int) + 1))] = [iv ((i.1 + 1 : Nat) : Int)]; rw [n4 hi hl], rfl, rfl, ⟨hi, hc, hsA, fun k hk => by
    rcases F1.1 hk with hk | rfl
    ·exact hI.2.2.2 k hk
    ·exact ⟨R.1, R.2.1, R.2.2.1, R.2.2.2, fun _ => h7, by have h := A9 h8; rw [hc] at h; omega, by have h := A9 h9; rw [hsA] at h; omega⟩⟩, by show a.1.length - (i.1 + 1) < a.1.length - i.1; omega⟩ : Rnd (d9c a.1 a.2.1.low a.2.1.view a.2.2.1) i [SV.i .i64 (wrap .i64 ((i.1 : Int) + 1))] [] [.map .int .int (j6 (E := D) .int .int i.2.1 (stA a.1 i.1).seq (wrap .i64 (cnt i.2.1 (stA a.1 i.1).seq + 1))), .map (.st 1) .int (j6 (E := D) (.st 1) .int (j6 (E := D) (.st 1) .int i.2.2 (mkS (stA a.1 i.1)) (sen i.2.2 (mkS (stA a.1 i.1)))) (mkS (stA a.1 i.1)) (wrap .i64 (sen i.2.2 (mkS (stA a.1 i.1)) + (1 : Int))))])))))) (fun h6 =>
 have h0 : ¬ 0 < i.1 := by have := A9 h6; omega
 bq (decide (@LT.lt Int _ a.2.2.1 (cnt (j6 (E := D) .int .int i.2.1 (stA a.1 i.1).seq (wrap .i64 (cnt i.2.1 (stA a.1 i.1).seq + 1))) (stA a.1 i.1).seq))) (fun h8 => (congrArg (fun q : Bool => some (q, ())) (a6v hi fun r => by have h := A6 h8; rw [hc] at h; have := r.f; omega).symm : some (false, ()) = some (a7d.ret a))) (fun h8 =>
 bq (decide (1 < sen (j6 (E := D) (.st 1) .int (j6 (E := D) (.st 1) .int i.2.2 (mkS (stA a.1 i.1)) (sen i.2.2 (mkS (stA a.1 i.1)))) (mkS (stA a.1 i.1)) (wrap .i64 (sen i.2.2 (mkS (stA a.1 i.1)) + (1 : Int)))) (mkS (stA a.1 i.1)))) (fun h9 => (congrArg (fun q : Bool => some (q, ())) (a6v hi fun r => by have h := A6 h9; rw [hsA] at h; have := r.g; omega).symm : some (false, ()) = some (a7d.ret a))) (fun h9 =>
 (⟨(i.1 + 1, (j6 (E := D) .int .int i.2.1 (stA a.1 i.1).seq (wrap .i64 (cnt i.2.1 (stA a.1 i.1).seq + 1))), (j6 (E := D) (.st 1) .int (j6 (E := D) (.st 1) .int i.2.2 (mkS (stA a.1 i.1)) (sen i.2.2 (mkS (stA a.1 i.1)))) (mkS (stA a.1 i.1)) (wrap .i64 (sen i.2.2 (mkS (stA a.1 i.1)) + (1 : Int))))), by
   show [SV.i .i64 (wrap .i64 ((i.1 : Int) + 1))] = [iv ((i.1 + 1 : Nat) : Int)]; rw [n4 hi hl], rfl, rfl, ⟨hi, hc, hsA, fun k hk => by
    rcases F1.1 hk with hk | rfl
    ·exact hI.2.2.2 k hk
    ·exact ⟨R.1, R.2.1, R.2.2.1, R.2.2.2, fun h => absurd h h0, by have h := A9 h8; rw [hc] at h; omega, by have h := A9 h9; rw [hsA] at h; omega⟩⟩, by show a.1.length - (i.1 + 1) < a.1.length - i.1; omega⟩ : Rnd (d9c a.1 a.2.1.low a.2.1.view a.2.2.1) i [SV.i .i64 (wrap .i64 ((i.1 : Int) + 1))] [] [.map .int .int (j6 (E := D) .int .int i.2.1 (stA a.1 i.1).seq (wrap .i64 (cnt i.2.1 (stA a.1 i.1).seq + 1))), .map (.st 1) .int (j6 (E := D) (.st 1) .int (j6 (E := D) (.st 1) .int i.2.2 (mkS (stA a.1 i.1)) (sen i.2.2 (mkS (stA a.1 i.1)))) (mkS (stA a.1 i.1)) (wrap .i64 (sen i.2.2 (mkS (stA a.1 i.1)) + (1 : Int))))]))))))) (
 bq (!bif decide (wrap .i64 (a.2.1.low + 1) <= (stA a.1 i.1).seq) then decide ((stA a.1 i.1).seq <= wrap .i64 (a.2.1.low + 8)) else false) (fun h4 => (congrArg (fun q : Bool => some (q, ())) (a6v hi fun r => rgT h4 (by rw [eL1, eL8]; have := r.a; have := r.b; omega)).symm : some (false, ()) = some (a7d.ret a))) (fun h4 =>
 bq (!bif decide (0 <= (stA a.1 i.1).view) then decide ((stA a.1 i.1).view <= wrap .i64 (a.2.1.view - 1)) else false) (fun h5 => (congrArg (fun q : Bool => some (q, ())) (a6v hi fun r => rgT h5 (by rw [eV]; have := r.c; have := r.d; omega)).symm : some (false, ()) = some (a7d.ret a))) (fun h5 =>
 have R : a.2.1.low < (stA a.1 i.1).seq /\ (stA a.1 i.1).seq <= a.2.1.low + 8 /\ 0 <= (stA a.1 i.1).view /\ (stA a.1 i.1).view < a.2.1.view := by
  have g4 := rgF h4; have g5 := rgF h5; rw [eL1, eL8] at g4; rw [eV] at g5; omega
 bq (decide (0 < (i.1 : Int))) (fun h6 =>
 have h0 : 0 < i.1 := by have := A6 h6; omega
 have eP : (wrap .i64 ((i.1 : Int) - 1)) = ((i.1 - 1 : Nat) : Int) := by unfold d4 at hl; rw [IntWalk.i64_in _ (by omega)]; omega
 have eY : (stA a.1 (wrap .i64 ((i.1 : Int) - 1)).toNat) = stA a.1 (i.1 - 1) := by rw [eP, G6]
 bN (iX (wrap .i64 ((i.1 : Int) - 1)) ((a.1.length : Nat) : Int)) (by rw [eP]; exact ltC (by omega)) (
 bq (decide (0 <= b5y (stA a.1 (wrap .i64 ((i.1 : Int) - 1)).toNat) (stA a.1 i.1))) (fun h7 => (congrArg (fun q : Bool => some (q, ())) (a6v hi fun r => by have h := A6 h7; rw [eY] at h; have := b8j.2 (r.e h0); omega).symm : some (false, ()) = some (a7d.ret a))) (fun h7 =>
 have h7 : sLt (stA a.1 (i.1 - 1)) (stA a.1 i.1) = true := by have h := A9 h7; rw [eY] at h; exact b8j.1 (by omega)
 bq (decide (@LT.lt Int _ a.2.2.1 (cnt (j6 (E := D) .int .int i.2.1 (stA a.1 i.1).seq (wrap .i64 (cnt i.2.1 (stA a.1 i.1).seq + 1))) (stA a.1 i.1).seq))) (fun h8 => (congrArg (fun q : Bool => some (q, ())) (a6v hi fun r => by have h := A6 h8; rw [hc] at h; have := r.f; omega).symm : some (false, ()) = some (a7d.ret a))) (fun h8 =>
 bq (decide (1 < sen (j6 (E := D) (.st 1) .int (j6 (E := D) (.st 1) .int i.2.2 (mkS (stA a.1 i.1)) (sen i.2.2 (mkS (stA a.1 i.1)))) (mkS (stA a.1 i.1)) (wrap .i64 (sen (j6 (E := D) (.st 1) .int i.2.2 (mkS (stA a.1 i.1)) (sen i.2.2 (mkS (stA a.1 i.1)))) (mkS (stA a.1 i.1)) + (1 : Int)))) (mkS (stA a.1 i.1)))) (fun h9 => (congrArg (fun q : Bool => some (q, ())) (a6v hi fun r => by have h := A6 h9; rw [hsB] at h; have := r.g; omega).symm : some (false, ()) = some (a7d.ret a))) (fun h9 =>
 (⟨(i.1 + 1, (j6 (E := D) .int .int i.2.1 (stA a.1 i.1).seq (wrap .i64 (cnt i.2.1 (stA a.1 i.1).seq + 1))), (j6 (E := D) (.st 1) .int (j6 (E := D) (.st 1) .int i.2.2 (mkS (stA a.1 i.1)) (sen i.2.2 (mkS (stA a.1 i.1)))) (mkS (stA a.1 i.1)) (wrap .i64 (sen (j6 (E := D) (.st 1) .int i.2.2 (mkS (stA a.1 i.1)) (sen i.2.2 (mkS (stA a.1 i.1)))) (mkS (stA a.1 i.1)) + (1 : Int))))), by
   show [SV.i .i64 (wrap .i64 ((i.1 : Int) + 1))] = [iv ((i.1 + 1 : Nat) : Int)]; rw [n4 hi hl], rfl, rfl, ⟨hi, hc, hsB, fun k hk => by
    rcases F1.1 hk with hk | rfl
    ·exact hI.2.2.2 k hk
    ·exact ⟨R.1, R.2.1, R.2.2.1, R.2.2.2, fun _ => h7, by have h := A9 h8; rw [hc] at h; omega, by have h := A9 h9; rw [hsB] at h; omega⟩⟩, by show a.1.length - (i.1 + 1) < a.1.length - i.1; omega⟩ : Rnd (d9c a.1 a.2.1.low a.2.1.view a.2.2.1) i [SV.i .i64 (wrap .i64 ((i.1 : Int) + 1))] [] [.map .int .int (j6 (E := D) .int .int i.2.1 (stA a.1 i.1).seq (wrap .i64 (cnt i.2.1 (stA a.1 i.1).seq + 1))), .map (.st 1) .int (j6 (E := D) (.st 1) .int (j6 (E := D) (.st 1) .int i.2.2 (mkS (stA a.1 i.1)) (sen i.2.2 (mkS (stA a.1 i.1)))) (mkS (stA a.1 i.1)) (wrap .i64 (sen (j6 (E := D) (.st 1) .int i.2.2 (mkS (stA a.1 i.1)) (sen i.2.2 (mkS (stA a.1 i.1)))) (mkS (stA a.1 i.1)) + (1 : Int))))])))))) (fun h6 =>
 have h0 : ¬ 0 < i.1 := by have := A9 h6; omega
 bq (decide (@LT.lt Int _ a.2.2.1 (cnt (j6 (E := D) .int .int i.2.1 (stA a.1 i.1).seq (wrap .i64 (cnt i.2.1 (stA a.1 i.1).seq + 1))) (stA a.1 i.1).seq))) (fun h8 => (congrArg (fun q : Bool => some (q, ())) (a6v hi fun r => by have h := A6 h8; rw [hc] at h; have := r.f; omega).symm : some (false, ()) = some (a7d.ret a))) (fun h8 =>
 bq (decide (1 < sen (j6 (E := D) (.st 1) .int (j6 (E := D) (.st 1) .int i.2.2 (mkS (stA a.1 i.1)) (sen i.2.2 (mkS (stA a.1 i.1)))) (mkS (stA a.1 i.1)) (wrap .i64 (sen (j6 (E := D) (.st 1) .int i.2.2 (mkS (stA a.1 i.1)) (sen i.2.2 (mkS (stA a.1 i.1)))) (mkS (stA a.1 i.1)) + (1 : Int)))) (mkS (stA a.1 i.1)))) (fun h9 => (congrArg (fun q : Bool => some (q, ())) (a6v hi fun r => by have h := A6 h9; rw [hsB] at h; have := r.g; omega).symm : some (false, ()) = some (a7d.ret a))) (fun h9 =>
 (⟨(i.1 + 1, (j6 (E := D) .int .int i.2.1 (stA a.1 i.1).seq (wrap .i64 (cnt i.2.1 (stA a.1 i.1).seq + 1))), (j6 (E := D) (.st 1) .int (j6 (E := D) (.st 1) .int i.2.2 (mkS (stA a.1 i.1)) (sen i.2.2 (mkS (stA a.1 i.1)))) (mkS (stA a.1 i.1)) (wrap .i64 (sen (j6 (E := D) (.st 1) .int i.2.2 (mkS (stA a.1 i.1)) (sen i.2.2 (mkS (stA a.1 i.1)))) (mkS (stA a.1 i.1)) + (1 : Int))))), by
   show [SV.i .i64 (wrap .i64 ((i.1 : Int) + 1))] = [iv ((i.1 + 1 : Nat) : Int)]; rw [n4 hi hl], rfl, rfl, ⟨hi, hc, hsB, fun k hk => by
    rcases F1.1 hk with hk | rfl
    ·exact hI.2.2.2 k hk
    ·exact ⟨R.1, R.2.1, R.2.2.1, R.2.2.2, fun h => absurd h h0, by have h := A9 h8; rw [hc] at h; omega, by have h := A9 h9; rw [hsB] at h; omega⟩⟩, by show a.1.length - (i.1 + 1) < a.1.length - i.1; omega⟩ : Rnd (d9c a.1 a.2.1.low a.2.1.view a.2.2.1) i [SV.i .i64 (wrap .i64 ((i.1 : Int) + 1))] [] [.map .int .int (j6 (E := D) .int .int i.2.1 (stA a.1 i.1).seq (wrap .i64 (cnt i.2.1 (stA a.1 i.1).seq + 1))), .map (.st 1) .int (j6 (E := D) (.st 1) .int (j6 (E := D) (.st 1) .int i.2.2 (mkS (stA a.1 i.1)) (sen i.2.2 (mkS (stA a.1 i.1)))) (mkS (stA a.1 i.1)) (wrap .i64 (sen (j6 (E := D) (.st 1) .int i.2.2 (mkS (stA a.1 i.1)) (sen i.2.2 (mkS (stA a.1 i.1)))) (mkS (stA a.1 i.1)) + (1 : Int))))]))))))))) (fun h3 =>
 (congrArg (fun q : Bool => some (q, ())) (f8m fun k hk => hI.2.2.2 k (by have := A9 h3; omega)).symm : some (true, ()) = some (a7d.ret a))))
section
variable {l : List i6} {low view many : Int} {i : Nat}
abbrev srt (l : List i6) (i : Nat) : Prop := ∀ k, k <= i -> 0 < k -> sLt (stA l (k - 1)) (stA l k) = true
def e5s (h : srt l i) : ∀ d k, k + d <= i -> (stA l k).seq <= (stA l (k + d)).seq
 | 0, k, _ => Z5 _
 | d + 1, k, hk => by
  have h1 := e5s h d k (by omega); have h2 := a6t.1 (h (k + d + 1) (by omega) (by omega)); have e : k + d + 1 - 1 = k + d := by omega
  rw [e] at h2; show (stA l k).seq <= (stA l (k + d + 1)).seq; omega
def d6k (h : srt l i) {j k : Nat} (hj : j <= k) (hk : k <= i) : (stA l j).seq <= (stA l k).seq := by
 have := e5s h (k - j) j (by omega)
 rwa [show j + (k - j) = k by omega] at this
def c6n : ∀ {i : Nat}, srt l i -> ∀ k, k < i -> ((stA l k).seq = (stA l i).seq ↔ i + 1 - a4g l i <= k)
 | 0, _, k, hk => by omega
 | i + 1, h, k, hk => by
  have hr := b8h l i; have h0 : srt l i := fun j hj => h j (by omega)
  by_cases e : (stA l i).seq < (stA l (i + 1)).seq
  ·rw [c6l (l := l) (i := i + 1) (by omega) e]; have := d6k h0 (j := k) (k := i) (by omega) (B9 _); constructor
   ·intro h; omega
   ·intro h; omega
  ·rw [d2z (l := l) (i := i + 1) (by omega) e]; have e2 : (stA l i).seq = (stA l (i + 1)).seq := by
    have h2 := a6t.1 (h (i + 1) (B9 _) (by omega)); have : (stA l (i + 1 - 1)).seq = (stA l i).seq := rfl; omega
   rw [<- e2]; show _ ↔ i + 1 + 1 - (a4g l i + 1) <= k; by_cases hki : k = i
   ·subst hki; constructor
    ·intro _; omega
    ·intro _; rfl
   ·rw [c6n h0 k (by omega)]; omega
def d6l {k : Nat} {s : i6} (hs : s ∈ l.take i) (hi : i <= l.length) : ∃ k, k < i /\ s = stA l k := by
 obtain ⟨k, hk, rfl⟩ := List.getElem_of_mem hs
 rw [C4] at hk
 refine ⟨k, by omega, ?_⟩
 unfold stA
 rw [List.getElem_take, B3, B2 (by omega)]; rfl
def d6m (hi : i <= l.length) {p : i6 -> Bool} (h : ∀ k, k < i -> p (stA l k) = false) : (l.take i).countP p = 0 := by
 refine Y0.2 fun s hs => ?_
 obtain ⟨k, hk, rfl⟩ := d6l (k := 0) hs hi
 rw [h k hk]; simp
def e5t (hi : i <= l.length) {p : i6 -> Bool} (h : (l.take i).countP p = 0) : ∀ k, k < i -> p (stA l k) = false := by
 intro k hk
 have hm : stA l k ∈ l.take i := by
  have hlt : k < (l.take i).length := by rw [C4]; omega
  have e : (l.take i)[k] = stA l k := by
   unfold stA; rw [List.getElem_take, B3, B2 (by omega)]; rfl
  rw [<- e]; exact M6 hlt
 have := Y0.1 h _ hm
 simpa using this
def d6n : ∀ {i : Nat}, i < l.length -> srt l i -> (l.take (i + 1)).countP (fun s => decide (s.seq = (stA l i).seq)) = a4g l i
 | 0, hi, _ => by
  rw [b1g hi]; simp [a4g]
 | i + 1, hi, h => by
  have h0 : srt l i := fun j hj => h j (by omega)
  rw [b1g hi]; have e1 : (if (fun s : i6 => decide (s.seq = (stA l (i + 1)).seq)) (stA l (i + 1)) = true then 1 else 0) = 1 := by simp
  rw [e1]; by_cases e : (stA l i).seq < (stA l (i + 1)).seq
  ·rw [c6l (l := l) (i := i + 1) (by omega) e, d6m (by omega) fun k hk => ?_]; have := d6k h0 (j := k) (k := i) (by omega) (B9 _); exact E5 (by omega)
  ·rw [d2z (l := l) (i := i + 1) (by omega) e]; have e2 : (stA l i).seq = (stA l (i + 1)).seq := by
    have h2 := a6t.1 (h (i + 1) (B9 _) (by omega)); have : (stA l (i + 1 - 1)).seq = (stA l i).seq := rfl; omega
   rw [<- e2, d6n (by omega) h0]; rfl
def e5u {s t : i6} : mkS s = mkS t ↔ s.seq = t.seq /\ s.dig = t.dig := by simp [mkS]
def f3o (hi : i < l.length) (hs : srt l i) : okP l low view many i ↔ okR l low view many i := by
 have hg : (((l.take (i + 1)).countP fun s => decide (mkS s = mkS (stA l i)) : Nat) : Int) <= 1 ↔ ∀ k, i + 1 - a4g l i <= k -> k < i -> (stA l k).dig ≠ (stA l i).dig := by
  rw [b1g hi]; have e1 : (if (fun s : i6 => decide (mkS s = mkS (stA l i))) (stA l i) = true then 1 else 0) = 1 := by simp
  rw [e1]; constructor
  ·intro h k h1 h2 hd; have hz : (l.take i).countP (fun s => decide (mkS s = mkS (stA l i))) = 0 := by omega
   have := A9 (e5t (by omega) hz k h2); exact this (e5u.2 ⟨(c6n hs k h2).2 h1, hd⟩)
  ·intro h; have hz := d6m (l := l) (i := i) (by omega) (p := fun s => decide (mkS s = mkS (stA l i))) fun k hk => E5 fun e => h k ((c6n hs k hk).1 (e5u.1 e).1) hk (e5u.1 e).2
   omega
 have hf := d6n hi hs
 constructor
 ·intro h; exact ⟨h.a, h.b, h.c, h.d, h.e, by have := h.f; rw [hf] at this; exact this, hg.1 h.g⟩
 ·intro h; exact ⟨h.a, h.b, h.c, h.d, h.e, by rw [hf]; exact h.f, hg.2 h.g⟩
def e5v : (∀ i, i < l.length -> okP l low view many i) ↔ ∀ i, i < l.length -> okR l low view many i := by
 constructor
 ·intro h i hi; exact (f3o hi fun k hk h0 => (h k (by omega)).e h0).1 (h i hi)
 ·intro h i hi; exact (f3o hi fun k hk h0 => (h k (by omega)).e h0).2 (h i hi)
def g5d (low : Int) : ∀ (l : List i6), (∀ s ∈ l, low < s.seq /\ s.seq <= low + 8) -> l.length <= ((List.range 8).map fun d : Nat => l.countP fun s => decide (s.seq = low + 1 + (d : Int))).sum
 | [], _ => C0 _
 | s :: l, h => by
  have ih := g5d low l fun t ht => h t (D7 _ ht)
  have hs := h s E7; have : s.seq = low + 1 + 0 ∨ s.seq = low + 1 + 1 ∨ s.seq = low + 1 + 2 ∨ s.seq = low + 1 + 3 ∨ s.seq = low + 1 + 4 ∨ s.seq = low + 1 + 5 ∨ s.seq = low + 1 + 6 ∨ s.seq = low + 1 + 7 := by omega
  simp only [show List.range 8 = [0, 1, 2, 3, 4, 5, 6, 7] from rfl, C9, L0, List.sum_cons, List.sum_nil, M7, I3] at ih ⊢; simp only [C6]; rcases this with e | e | e | e | e | e | e | e <;> (repeat' (first | omega | split))
def d6o (hm : 0 <= many) (h : ∀ i, i < l.length -> okP l low view many i) (x : Int) : ∀ n, n <= l.length -> (((l.take n).countP fun s => decide (s.seq = x) : Nat) : Int) <= many
 | 0, _ => by simpa using hm
 | n + 1, hn => by
  by_cases e : (stA l n).seq = x
  ·subst e; exact (h n hn).f
  ·rw [b1g hn, show (if (fun s : i6 => decide (s.seq = x)) (stA l n) = true then 1 else 0) = 0 by simp only [C6]; exact F7 e, N5]; exact d6o hm h x n (by omega)
open Classical in
def e5w (hm : 0 <= many) : b2c l low view many = a1n l low view many := by
 unfold b2c a1n
 by_cases h : ∀ i, i < l.length -> okP l low view many i
 ·have h2 := e5v.1 h; have h1 : (l.length : Int) <= 8 * many := by
   have h3 := g5d low l fun s hs => by
    obtain ⟨k, hk, rfl⟩ := d6l (k := 0) (i := l.length) (by rw [D1]; exact hs) (B9 _); exact ⟨(h k hk).a, (h k hk).b⟩
   have h4 : ∀ x : Int, ((l.countP fun s => decide (s.seq = x) : Nat) : Int) <= many := fun x => by
    have := d6o hm h x l.length (B9 _)
    rwa [D1] at this
   simp only [show List.range 8 = [0, 1, 2, 3, 4, 5, 6, 7] from rfl, C9, L0, List.sum_cons, List.sum_nil] at h3; have a0 := h4 (low + 1 + ((0 : Nat) : Int)); have a1 := h4 (low + 1 + ((1 : Nat) : Int)); have a2 := h4 (low + 1 + ((2 : Nat) : Int)); have a3 := h4 (low + 1 + ((3 : Nat) : Int)); have a4 := h4 (low + 1 + ((4 : Nat) : Int)); have a5 := h4 (low + 1 + ((5 : Nat) : Int)); have a6 := h4 (low + 1 + ((6 : Nat) : Int)); have a7 := h4 (low + 1 + ((7 : Nat) : Int)); omega
  rw [F6 h, F6 ⟨h1, h2⟩]
 ·rw [E5 h, E5 fun hh => h (e5v.2 hh.2)]
end
def b0i : Con D := { ts := [.st 3], rt := [.bool], ret := fun a => (j8 a.1, ()) }
abbrev sqs (l : List Mark) : List Int := l.map fun m => m.seq
def f8n (l : List Mark) : LH D := ⟨Nat, [3, 32], fun i => [.own 0, iv (i : Int)], fun i => i <= l.length, fun i => l.length - i, [(.sl 3, .int, 3)], fun i => [.arr .int 3 (sqs (l.take i))], [], fun _ => []⟩
def pmH (a : HL D b0i.ts) : Nat -> Nat -> Option (Hint D) := fun f r => match f, r with
 | 120, 5 => some (.inv (f8n a.1.mz))
 | _, _ => none
abbrev Γpm : Nat -> Option (Con D) := i5 (i5 noC 166 a7d) 165 b6w
def Kpm : n3 EF Tp Γpm noO := (K0.c g5c).c f8l
section
variable {l : List Mark}
def inS {k : Nat} (hk : k < l.length) : inA (sqs l) k = (mkA l k).seq := by
 unfold inA mkA
 rw [B3, B3, C7, B2 hk]; rfl
def f0v : (sqs l).length = l.length := C5 _
open Classical in
def g5e {l : List Int} (h : rsB l = true) : ∀ i, i < l.length -> 0 < i -> inA l (i - 1) < inA l i := by unfold rsB at h; exact A6 h
open Classical in
def f8o {l : List Int} (h : rsB l = false) : ¬ ∀ i, i < l.length -> 0 < i -> inA l (i - 1) < inA l i := by unfold rsB at h; exact A9 h
def d6p (h : ∀ i, i < l.length -> 0 < i -> (mkA l (i - 1)).seq < (mkA l i).seq) : ∀ d k, k + d < l.length -> (mkA l k).seq <= (mkA l (k + d)).seq
 | 0, k, _ => Z5 _
 | d + 1, k, hk => by
  have h1 := d6p h d k (by omega); have h2 := h (k + d + 1) (by omega) (by omega); have e : k + d + 1 - 1 = k + d := by omega
  rw [e] at h2; show (mkA l k).seq <= (mkA l (k + d + 1)).seq; omega
def f0w {c : b8} (r : hdM c /\ ∀ i, i < c.mz.length -> okM c.mz i) : (mkA c.mz (c.mz.length - 1)).seq <= 9007199254740991 := by
 have h1 := r.1.l
 by_cases h : c.mz.length = 1
 ·rw [show c.mz.length - 1 = 0 by omega, r.1.m]; have := r.1.w.2; omega
 ·exact (r.2 (c.mz.length - 1) (by omega) (by omega)).2
end
def f3p : b0i.ok Tp 120 := Con.proveH (c := b0i) EF ZL (H := pmH) (call := fun a => a3q EF ZL (fun _ => none) Γpm noO (pmH a) 2) (fun a => a0q a0r.nil Kpm 2) fun (a : HL D b0i.ts) (_ : b0i.holds a) =>
 bq (!bif decide (1 <= a.1.node) then decide (a.1.node <= 28) else false) (fun h1 => (congrArg (fun q : Bool => some (q, ())) (a6u fun r => rgT h1 r.1.n).symm : some (false, ()) = some (b0i.ret a))) (fun h1 =>
 have H1 := rgF h1
 bq (!bif decide (1 <= a.1.view) then decide (a.1.view <= 1048576) else false) (fun h2 => (congrArg (fun q : Bool => some (q, ())) (a6u fun r => rgT h2 r.1.v).symm : some (false, ()) = some (b0i.ret a))) (fun h2 =>
 have H2 := rgF h2
 bq (!bif decide (0 <= a.1.low) then decide (a.1.low <= 9007199254740983) else false) (fun h3 => (congrArg (fun q : Bool => some (q, ())) (a6u fun r => rgT h3 r.1.w).symm : some (false, ()) = some (b0i.ret a))) (fun h3 =>
 have H3 := rgF h3
 brL fun hl : a.1.mz.length <= d4 =>
 bq (!bif decide (1 <= ((a.1.mz.length : Nat) : Int)) then decide (((a.1.mz.length : Nat) : Int) <= 5) else false) (fun h5 => (congrArg (fun q : Bool => some (q, ())) (a6u fun r => rgT h5 (by have := r.1.l; omega)).symm : some (false, ()) = some (b0i.ret a))) (fun h5 =>
 have H5 := rgF h5
 brL fun _ : a.1.mz.length <= d4 =>
 And.intro (⟨(0 : Nat), rfl, rfl, rfl, C0 _⟩ : Ent (f8n a.1.mz) [SV.own 0, SV.i .i64 0] [HB.arr .int 3 ([] : List Int)] []) (
 fun (i : Nat) (hI : i <= a.1.mz.length) =>
 have eL : (sqs (a.1.mz.take i)).length = i := by rw [f0v, C4]; omega
 bq (decide ((i : Int) < (a.1.mz.length : Nat))) (fun h8 =>
 have hi : i < a.1.mz.length := by have := A6 h8; omega
 bN (iX (i : Int) ((a.1.mz.length : Nat) : Int)) (ltC hi) (
 bN (Nat.ble (((sqs (a.1.mz.take i)).length + [(mkA a.1.mz i).seq].length) * j0 Tp 3) d4) (by rw [mb3, eL]; exact D3 (by show (i + 1) * _ <= _; unfold d4; omega)) (
 have eN : (sqs (a.1.mz.take i)) ++ [(mkA a.1.mz i).seq] = sqs (a.1.mz.take (i + 1)) := by
  rw [D9 hi]; unfold sqs; rw [F5]; have : mkA a.1.mz i = a.1.mz[i] := by unfold mkA; rw [B3, B2 hi]; rfl
  rw [this]; rfl
 (⟨i + 1, by
   show [SV.own 0, SV.i .i64 (wrap .i64 ((i : Int) + 1))] = [SV.own 0, iv ((i + 1 : Nat) : Int)]; rw [n4 hi hl], by
   show ([HB.arr .int 3 ((sqs (a.1.mz.take i)) ++ [(mkA a.1.mz i).seq])] : List (HB D)) = [HB.arr .int 3 (sqs (a.1.mz.take (i + 1)))]; rw [eN], rfl, (show i + 1 <= a.1.mz.length from hi), by show a.1.mz.length - (i + 1) < a.1.mz.length - i; omega⟩ : Rnd (f8n a.1.mz) i [SV.own 0, SV.i .i64 (wrap .i64 ((i : Int) + 1))] [HB.arr .int 3 ((sqs (a.1.mz.take i)) ++ [(mkA a.1.mz i).seq])] [])))) (fun h8 =>
 have hi : i = a.1.mz.length := by have := A9 h8; omega
 have eA : ∀ k, k < a.1.mz.length -> inA (sqs (a.1.mz.take i)) k = (mkA a.1.mz k).seq := fun k hk => by rw [hi, D1]; exact inS hk
 bN (iX (0 : Int) (((sqs (a.1.mz.take i)).length : Nat) : Int)) (by rw [eL]; simp; omega) (
 bq (@BEq.beq Int _ (inA (sqs (a.1.mz.take i)) 0) a.1.low) (fun h9 =>
 have h9 : (mkA a.1.mz 0).seq = a.1.low := by rw [<- eA 0 (by omega)]; exact A6 h9
 have HD : hdM a.1 := ⟨H1, H2, H3, by omega, h9⟩
 bq (rsB (sqs (a.1.mz.take i))) (fun h10 =>
 have hr : ∀ k, k < a.1.mz.length -> 0 < k -> (mkA a.1.mz (k - 1)).seq < (mkA a.1.mz k).seq := fun k hk h0 => by
  have := g5e h10 k (by rw [eL]; omega) h0
  rwa [eA k hk, eA (k - 1) (by omega)] at this
 brL fun _ : (sqs (a.1.mz.take i)).length <= d4 =>
 have eI : (wrap .i64 ((((sqs (a.1.mz.take i)).length : Nat) : Int) - 1)) = ((a.1.mz.length - 1 : Nat) : Int) := by rw [eL, hi, IntWalk.i64_in _ (by omega)]; omega
 have eZ : inA (sqs (a.1.mz.take i)) (wrap .i64 ((((sqs (a.1.mz.take i)).length : Nat) : Int) - 1)).toNat = (mkA a.1.mz (a.1.mz.length - 1)).seq := by rw [eI, G6]; exact eA _ (by omega)
 bN (iX (wrap .i64 ((((sqs (a.1.mz.take i)).length : Nat) : Int) - 1)) (((sqs (a.1.mz.take i)).length : Nat) : Int)) (by rw [eI, eL]; exact ltC (by omega)) (
 bq (decide (@LE.le Int _ (inA (sqs (a.1.mz.take i)) (wrap .i64 ((((sqs (a.1.mz.take i)).length : Nat) : Int) - 1)).toNat) 9007199254740991)) (fun h12 =>
 have h12 : (mkA a.1.mz (a.1.mz.length - 1)).seq <= 9007199254740991 := by rw [<- eZ]; exact A6 h12
 have hA : hdM a.1 /\ ∀ k, k < a.1.mz.length -> okM a.1.mz k := ⟨HD, fun k hk h0 => ⟨hr k hk h0, by
  have := d6p hr (a.1.mz.length - 1 - k) k (by omega); rw [show k + (a.1.mz.length - 1 - k) = a.1.mz.length - 1 by omega] at this
  omega⟩⟩
 pQ ((0 : Int) <= a.1.low /\ a.1.low <= 9007199254740983 /\ (1 : Int) <= a.1.view /\ a.1.view <= 1048576) ⟨H3.1, H3.2, H2.1, H2.2⟩ (
 bq (b2c a.1.p a.1.low a.1.view 1) (fun h13 =>
 pQ ((0 : Int) <= a.1.low /\ a.1.low <= 9007199254740983 /\ (1 : Int) <= a.1.view /\ a.1.view <= 1048576) ⟨H3.1, H3.2, H2.1, H2.2⟩ (
 (by
  show some (b2c a.1.q a.1.low a.1.view 4, ()) = some (j8 a.1, ()); rw [e5w (by decide)] at h13; rw [d6d hA, h13, e5w (by decide)]; rfl : some (b2c a.1.q a.1.low a.1.view 4, ()) = some (b0i.ret a)))) (fun h13 =>
 (by
  show some (false, ()) = some (j8 a.1, ()); rw [e5w (by decide)] at h13; rw [d6d hA, h13]; rfl : some (false, ()) = some (b0i.ret a))))) (fun h12 => (congrArg (fun q : Bool => some (q, ())) (a6u fun r => by have h := A9 h12; rw [eZ] at h; exact h (f0w r)).symm : some (false, ()) = some (b0i.ret a))))) (fun h10 => (congrArg (fun q : Bool => some (q, ())) (a6u fun r => f8o h10 fun k hk h0 => by rw [eL] at hk; rw [eA k (by omega), eA (k - 1) (by omega)]; exact (r.2 k (by omega) h0).1).symm : some (false, ()) = some (b0i.ret a)))) (fun h9 => (congrArg (fun q : Bool => some (q, ())) (a6u fun r => by have h := A9 h9; exact h ((eA 0 (by omega)).trans r.1.m)).symm : some (false, ()) = some (b0i.ret a))))))))))
def a9c : Con D := { ts := [.st 3], rt := [.sl .u8, .int], ret := fun a => bif j8 a.1 then (d9 a.1, 0, ()) else ([], 2, ()) }
section
variable (c : b8)
def g1 : List UInt8 := [] ++ N c.node
def g2 : List UInt8 := g1 c ++ N c.view
def g3 : List UInt8 := g2 c ++ N c.low
def g4 : List UInt8 := g3 c ++ N (c.mz.length : Nat)
def g5 : List UInt8 := (g4 c ++ c.mz.flatMap j4) ++ N (c.p.length : Nat)
def g6 : List UInt8 := (g5 c ++ c.p.flatMap d5) ++ N (c.q.length : Nat)
end
def a9d {α : Type} (pre : List UInt8) (f : α -> List UInt8) (l : List α) (w : Nat) : LH D := ⟨Nat, [22], fun i => [iv (i : Int)], fun i => i <= l.length, fun i => l.length - i, [(.bx w 0, .u8, 5)], fun i => [.arr .u8 5 (pre ++ (l.take i).flatMap f)], [w], fun _ => [.box 184 [.own 0]]⟩
def cgH (a : HL D a9c.ts) : Nat -> Nat -> Option (Hint D) := fun f r => match f, r with
 | 167, 2 => some (.inv (a9d (g4 a.1) j4 a.1.mz 1))
 | 167, 5 => some (.sure false)
 | 169, 2 => some (.dep fun s => bif decide (slI s 2 = 8) then .inv (a9d (g5 a.1) d5 a.1.p 1) else .inv (a9d (g6 a.1) d5 a.1.q 1))
 | 169, 5 => some (.sure false)
 | _, _ => none
abbrev Γcg : Nat -> Option (Con D) := i5 (i5 noC 120 b0i) 286 a3a
def Kcg : n3 EF Tp Γcg noO := (K0.c f3p).c c6f
def d0k {α : Type} (pre : List UInt8) (f : α -> List UInt8) (l : List α) (k : Nat) : LH D := ⟨Nat, [0, k], fun i => [.own 0, iv (i : Int)], fun i => i <= l.length, fun i => l.length - i, [(.sl 0, .u8, 5)], fun i => [.arr .u8 5 (pre ++ (l.take i).flatMap f)], [], fun _ => []⟩
def crH (a : HL D a9c.ts) : Nat -> Nat -> Option (Hint D) := fun f r => match f, r with
 | 89, 6 => some (.inv (d0k (g4 a.1) j4 a.1.mz 5))
 | 136, 3 => some (.dep fun s => .inv (d0k (owL .u8 s 0) d5 (slL (.st 2) s 1) 5))
 | _, _ => none
abbrev Γcr : Nat -> Option (Con D) := i5 (i5 noC 88 a6e) 177 a3a
def Kcr : n3 EF Tp Γcr noO := (K0.c d6e).c c3y
def a5d {α : Type} {pre : List UInt8} {f : α -> List UInt8} {l : List α} {i : Nat} {d : α} (hi : i < l.length) : (pre ++ (l.take i).flatMap f) ++ f (l.getD i d) = pre ++ (l.take (i + 1)).flatMap f := by
 rw [D9 hi, E3, B6]
 have : l.getD i d = l[i] := by rw [B3, B2 hi]; rfl
 rw [this]; simp
def d3a {α : Type} {f : α -> List UInt8} {k : Nat} (h : ∀ x, (f x).length <= 40 * k) : ∀ l : List α, (l.flatMap f).length <= 40 * (k * l.length)
 | [] => C0 _
 | x :: l => by
  have h1 := h x; have h2 := d3a h l; rw [L7, B7, I3, Nat.mul_succ]; omega
def a4q (m : Mark) : (j4 m).length <= 40 * 2 := by
 have := i4 m.seq; have := a1f m.dig
 unfold j4; rw [B7]; omega
def z7 (m : i6) : (d5 m).length <= 40 * 3 := by
 have := i4 m.seq; have := a1f m.dig; have := i4 m.view
 unfold d5; rw [B7, B7]; omega
def m9 {α : Type} {f : α -> List UInt8} {k n b i : Nat} {pre : List UInt8} {l : List α} (h : ∀ x, (f x).length <= 40 * k) (hp : pre.length <= 40 * n) (hb : l.length <= b) : (pre ++ (l.take i).flatMap f).length <= 40 * (n + k * b) := by
 have h1 := d3a h (l.take i)
 have h2 : (l.take i).length <= b := D5 (by rw [C4]; exact T3 _ _) hb
 have h3 : k * (l.take i).length <= k * b := Nat.mul_le_mul_left k h2
 rw [B7]; omega
section
variable {c : b8}
def d3b : (g1 c).length <= 40 * 1 := i7 (k := 0) (B9 _) (i4 _)
def d3c : (g2 c).length <= 40 * 2 := i7 d3b (i4 _)
def d3d : (g3 c).length <= 40 * 3 := i7 d3c (i4 _)
def b2v : (g4 c).length <= 40 * 4 := i7 d3d (i4 _)
def a1t (h : j8 c = true) : hdM c /\ a1n c.p c.low c.view 1 = true /\ a1n c.q c.low c.view 4 = true := by
 unfold j8 at h
 simp only [A7, C6] at h
 exact ⟨h.1.1, h.2⟩
def a8j (h : c.mz.length <= 5) : (g5 c).length <= 40 * 15 := i7 (k := 14) (by
 have := m9 (f := j4) (k := 2) (i := c.mz.length) a4q (b2v (c := c)) h
 rwa [D1] at this) (i4 _)
def b0j (h : c.mz.length <= 5) (h2 : c.p.length <= 8) : (g6 c).length <= 40 * 40 := i7 (k := 39) (by
 have := m9 (f := d5) (k := 3) (i := c.p.length) z7 (a8j h) h2
 rwa [D1] at this) (i4 _)
def d6q : g6 c ++ c.q.flatMap d5 = d9 c := by
 simp [g6, g5, g4, g3, g2, g1, d9, B6]
end
end
end Go.Proofs.YtpbcabanpppfoaaGreat
namespace Go.Proofs.YtpbcabanpppfoaaGreat
open Go Go.Gx Go.Vz
open Go.IntKind (wrap)
open List (flatMap getD length take replicate)
set_option maxRecDepth 100000
noncomputable section
open Classical in
def a8k {l : List i6} {low view : Int} (h : a1n l low view 1 = true) : l.length <= 8 := by unfold a1n at h; have := (A6 h).1; omega
open Classical in
def a8l {l : List i6} {low view : Int} (h : a1n l low view 4 = true) : l.length <= 32 := by unfold a1n at h; have := (A6 h).1; omega
def d3e : a4o D := { ts := [.st 3], t := .u8, e := 5, rt := [.int], ret := fun a => bif j8 a.1 then (d9 a.1, 0, ()) else ([], 2, ()) }
def f3q : d3e.ok Tp 83 := a4o.prove (F := EF) (Z := ZL) (c := d3e) ⟨fun _ _ _ _ h => h, rfl⟩ (H := cgH) (call := fun a => a3q EF ZL (fun _ => none) Γcg noO (cgH a) 6) (fun a => a0q a0r.nil Kcg 6) fun (a : HL D d3e.ts) (_ : d3e.holds a) =>
 bq (!(b0i.ret a).fst) (fun h1 => (by
   show some ([], (2 : Int), ()) = some (bif j8 a.1 then (d9 a.1, 0, ()) else ([], 2, ())); have h : j8 a.1 = false := by have h1 : (!j8 a.1) = true := h1; simpa using h1
   rw [h]; rfl : some ([], (2 : Int), ()) = some (d3e.ret a))) (fun h1 =>
 have hm : j8 a.1 = true := by have h1 : (!j8 a.1) = false := h1; simpa using h1
 have H := a1t hm
 have m5 : a.1.mz.length <= 5 := by have := H.1.l; omega
 have p8 : a.1.p.length <= 8 := a8k H.2.1
 have q32 : a.1.q.length <= 32 := a8l H.2.2
 bN (Nat.ble ((length ([]) + length (N a.1.node)) * j0 Tp 5) d4) (j3 0 (B9 _) (i4 _) (by omega)) (
 bN (Nat.ble ((length (([] ++ N a.1.node)) + length (N a.1.view)) * j0 Tp 5) d4) (j3 1 d3b (i4 _) (by omega)) (
 bN (Nat.ble ((length ((([] ++ N a.1.node) ++ N a.1.view)) + length (N a.1.low)) * j0 Tp 5) d4) (j3 2 d3c (i4 _) (by omega)) (
 brL fun hlm : a.1.mz.length <= d4 =>
 bN (Nat.ble ((length (((([] ++ N a.1.node) ++ N a.1.view) ++ N a.1.low)) + length (N (((a.1.mz).length : Nat) : Int))) * j0 Tp 5) d4) (j3 3 d3d (i4 _) (by omega)) (
 And.intro (⟨(0 : Nat), rfl, by
   show ([HB.arr .u8 5 (((([] ++ N a.1.node) ++ N a.1.view) ++ N a.1.low) ++ N (((a.1.mz).length : Nat) : Int))] : List (HB D)) = [HB.arr .u8 5 (g4 a.1 ++ [])]; rw [D6]; rfl, rfl, C0 _⟩ : Ent (a9d (g4 a.1) j4 a.1.mz 1) [SV.i .i64 0] [HB.arr .u8 5 (((([] ++ N a.1.node) ++ N a.1.view) ++ N a.1.low) ++ N (((a.1.mz).length : Nat) : Int))] [HB.box 184 [SV.own 0]]) (
 fun (i1 : Nat) (hIi1 : i1 <= (a.1.mz).length) =>
 bq (decide ((i1 : Int) < ((a.1.mz).length : Nat))) (fun hbi1 =>
 have hi1 : i1 < (a.1.mz).length := by have := A6 hbi1; omega
 brL fun hli1 : (a.1.mz).length <= d4 =>
 pQ (((i1 : Int) == (((a.1.mz).length : Nat) : Int)) = false) (L6.2 (by omega)) (bN (iX (i1 : Int) (((a.1.mz).length : Nat) : Int)) (ltC hi1) (bN (Nat.ble ((length ((g4 a.1 ++ flatMap j4 (take i1 a.1.mz))) + length (N (getD a.1.mz (Int.toNat (i1 : Int)) (Ty.dflt D (Ty.st 1))).seq)) * j0 Tp 5) d4) (j3 14 (m9 (k := 2) a4q b2v m5) (i4 _) (by omega)) (
 bN (Nat.ble ((length (((g4 a.1 ++ flatMap j4 (take i1 a.1.mz)) ++ N (getD a.1.mz (Int.toNat (i1 : Int)) (Ty.dflt D (Ty.st 1))).seq)) + length ((getD a.1.mz (Int.toNat (i1 : Int)) (Ty.dflt D (Ty.st 1))).dig.l)) * j0 Tp 5) d4) (j3 15 (i7 (m9 (k := 2) a4q b2v m5) (i4 _)) (a1f _) (by omega)) (
 (⟨i1 + 1, by
   show [SV.i .i64 (wrap .i64 ((i1 : Int) + 1))] = [iv ((i1 + 1 : Nat) : Int)]; rw [n4 hi1 hli1], by
   show ([HB.arr .u8 5 (((g4 a.1 ++ flatMap j4 (take i1 a.1.mz)) ++ N (getD a.1.mz (Int.toNat (i1 : Int)) (Ty.dflt D (Ty.st 1))).seq) ++ (getD a.1.mz (Int.toNat (i1 : Int)) (Ty.dflt D (Ty.st 1))).dig.l)] : List (HB D)) = [HB.arr .u8 5 (g4 a.1 ++ flatMap j4 (take (i1 + 1) a.1.mz))]; rw [<- a5d (d := Ty.dflt D (Ty.st 1)) hi1]; show ([HB.arr .u8 5 (((g4 a.1 ++ flatMap j4 (take i1 a.1.mz)) ++ N (getD a.1.mz (Int.toNat (i1 : Int)) (Ty.dflt D (Ty.st 1))).seq) ++ (getD a.1.mz (Int.toNat (i1 : Int)) (Ty.dflt D (Ty.st 1))).dig.l)] : List (HB D)) = [HB.arr .u8 5 ((g4 a.1 ++ flatMap j4 (take i1 a.1.mz)) ++ j4 (getD a.1.mz (Int.toNat (i1 : Int)) (Ty.dflt D (Ty.st 1))))]; unfold j4; simp only [B6], rfl, (show i1 + 1 <= (a.1.mz).length from hi1), by show (a.1.mz).length - (i1 + 1) < (a.1.mz).length - i1; omega⟩ : Rnd (a9d (g4 a.1) j4 a.1.mz 1) i1 [SV.i .i64 (wrap .i64 ((i1 : Int) + 1))] [HB.arr .u8 5 (((g4 a.1 ++ flatMap j4 (take i1 a.1.mz)) ++ N (getD a.1.mz (Int.toNat (i1 : Int)) (Ty.dflt D (Ty.st 1))).seq) ++ (getD a.1.mz (Int.toNat (i1 : Int)) (Ty.dflt D (Ty.st 1))).dig.l)] [HB.box 184 [SV.own 0]])))))) (fun hbi1 =>
 have hi1 : i1 = (a.1.mz).length := by have := A9 hbi1; omega
 brL fun hlp : a.1.p.length <= d4 =>
 have e5 : ((g4 a.1 ++ flatMap j4 (take i1 a.1.mz)) ++ N (((a.1.p).length : Nat) : Int)) = g5 a.1 := by unfold g5; rw [hi1, D1]
 bN (Nat.ble ((length ((g4 a.1 ++ flatMap j4 (take i1 a.1.mz))) + length (N (((a.1.p).length : Nat) : Int))) * j0 Tp 5) d4) (j3 14 (m9 (k := 2) a4q b2v m5) (i4 _) (by omega)) (
 And.intro (⟨(0 : Nat), rfl, by
   show ([HB.arr .u8 5 ((g4 a.1 ++ flatMap j4 (take i1 a.1.mz)) ++ N (((a.1.p).length : Nat) : Int))] : List (HB D)) = [HB.arr .u8 5 ((g5 a.1) ++ [])]; rw [D6]; rw [e5], rfl, C0 _⟩ : Ent (a9d ((g5 a.1)) d5 a.1.p 1) [SV.i .i64 0] [HB.arr .u8 5 ((g4 a.1 ++ flatMap j4 (take i1 a.1.mz)) ++ N (((a.1.p).length : Nat) : Int))] [HB.box 184 [SV.own 0]]) (
 fun (i2 : Nat) (hIi2 : i2 <= (a.1.p).length) =>
 bq (decide ((i2 : Int) < ((a.1.p).length : Nat))) (fun hbi2 =>
 have hi2 : i2 < (a.1.p).length := by have := A6 hbi2; omega
 brL fun hli2 : (a.1.p).length <= d4 =>
 pQ (((i2 : Int) == (((a.1.p).length : Nat) : Int)) = false) (L6.2 (by omega)) (bN (iX (i2 : Int) (((a.1.p).length : Nat) : Int)) (ltC hi2) (bN (Nat.ble ((length (((g5 a.1) ++ flatMap d5 (take i2 a.1.p))) + length (N (getD a.1.p (Int.toNat (i2 : Int)) (Ty.dflt D (Ty.st 2))).seq)) * j0 Tp 5) d4) (j3 39 (m9 (k := 3) z7 (show ((g5 a.1)).length <= 40 * 15 by exact a8j m5) p8) (i4 _) (by omega)) (
 bN (Nat.ble ((length ((((g5 a.1) ++ flatMap d5 (take i2 a.1.p)) ++ N (getD a.1.p (Int.toNat (i2 : Int)) (Ty.dflt D (Ty.st 2))).seq)) + length ((getD a.1.p (Int.toNat (i2 : Int)) (Ty.dflt D (Ty.st 2))).dig.l)) * j0 Tp 5) d4) (j3 40 (i7 (m9 (k := 3) z7 (show ((g5 a.1)).length <= 40 * 15 by exact a8j m5) p8) (i4 _)) (a1f _) (by omega)) (
 bN (Nat.ble ((length (((((g5 a.1) ++ flatMap d5 (take i2 a.1.p)) ++ N (getD a.1.p (Int.toNat (i2 : Int)) (Ty.dflt D (Ty.st 2))).seq) ++ (getD a.1.p (Int.toNat (i2 : Int)) (Ty.dflt D (Ty.st 2))).dig.l)) + length (N (getD a.1.p (Int.toNat (i2 : Int)) (Ty.dflt D (Ty.st 2))).view)) * j0 Tp 5) d4) (j3 41 (i7 (i7 (m9 (k := 3) z7 (show ((g5 a.1)).length <= 40 * 15 by exact a8j m5) p8) (i4 _)) (a1f _)) (i4 _) (by omega)) (
 (⟨i2 + 1, by
   show [SV.i .i64 (wrap .i64 ((i2 : Int) + 1))] = [iv ((i2 + 1 : Nat) : Int)]; rw [n4 hi2 hli2], by
   show ([HB.arr .u8 5 (((((g5 a.1) ++ flatMap d5 (take i2 a.1.p)) ++ N (getD a.1.p (Int.toNat (i2 : Int)) (Ty.dflt D (Ty.st 2))).seq) ++ (getD a.1.p (Int.toNat (i2 : Int)) (Ty.dflt D (Ty.st 2))).dig.l) ++ N (getD a.1.p (Int.toNat (i2 : Int)) (Ty.dflt D (Ty.st 2))).view)] : List (HB D)) = [HB.arr .u8 5 ((g5 a.1) ++ flatMap d5 (take (i2 + 1) a.1.p))]; rw [<- a5d (d := Ty.dflt D (Ty.st 2)) hi2]; show ([HB.arr .u8 5 (((((g5 a.1) ++ flatMap d5 (take i2 a.1.p)) ++ N (getD a.1.p (Int.toNat (i2 : Int)) (Ty.dflt D (Ty.st 2))).seq) ++ (getD a.1.p (Int.toNat (i2 : Int)) (Ty.dflt D (Ty.st 2))).dig.l) ++ N (getD a.1.p (Int.toNat (i2 : Int)) (Ty.dflt D (Ty.st 2))).view)] : List (HB D)) = [HB.arr .u8 5 (((g5 a.1) ++ flatMap d5 (take i2 a.1.p)) ++ d5 (getD a.1.p (Int.toNat (i2 : Int)) (Ty.dflt D (Ty.st 2))))]; unfold d5; simp only [B6], rfl, (show i2 + 1 <= (a.1.p).length from hi2), by show (a.1.p).length - (i2 + 1) < (a.1.p).length - i2; omega⟩ : Rnd (a9d ((g5 a.1)) d5 a.1.p 1) i2 [SV.i .i64 (wrap .i64 ((i2 : Int) + 1))] [HB.arr .u8 5 (((((g5 a.1) ++ flatMap d5 (take i2 a.1.p)) ++ N (getD a.1.p (Int.toNat (i2 : Int)) (Ty.dflt D (Ty.st 2))).seq) ++ (getD a.1.p (Int.toNat (i2 : Int)) (Ty.dflt D (Ty.st 2))).dig.l) ++ N (getD a.1.p (Int.toNat (i2 : Int)) (Ty.dflt D (Ty.st 2))).view)] [HB.box 184 [SV.own 0]]))))))) (fun hbi2 =>
 have hi2 : i2 = (a.1.p).length := by have := A9 hbi2; omega
 brL fun hlq : a.1.q.length <= d4 =>
 have e6 : (((g5 a.1) ++ flatMap d5 (take i2 a.1.p)) ++ N (((a.1.q).length : Nat) : Int)) = g6 a.1 := by unfold g6; rw [hi2, D1]
 bN (Nat.ble ((length (((g5 a.1) ++ flatMap d5 (take i2 a.1.p))) + length (N (((a.1.q).length : Nat) : Int))) * j0 Tp 5) d4) (j3 39 (m9 (k := 3) z7 (show ((g5 a.1)).length <= 40 * 15 by exact a8j m5) p8) (i4 _) (by omega)) (
 And.intro (⟨(0 : Nat), rfl, by
   show ([HB.arr .u8 5 (((g5 a.1) ++ flatMap d5 (take i2 a.1.p)) ++ N (((a.1.q).length : Nat) : Int))] : List (HB D)) = [HB.arr .u8 5 ((g6 a.1) ++ [])]; rw [D6]; rw [e6], rfl, C0 _⟩ : Ent (a9d ((g6 a.1)) d5 a.1.q 1) [SV.i .i64 0] [HB.arr .u8 5 (((g5 a.1) ++ flatMap d5 (take i2 a.1.p)) ++ N (((a.1.q).length : Nat) : Int))] [HB.box 184 [SV.own 0]]) (
 fun (i3 : Nat) (hIi3 : i3 <= (a.1.q).length) =>
 bq (decide ((i3 : Int) < ((a.1.q).length : Nat))) (fun hbi3 =>
 have hi3 : i3 < (a.1.q).length := by have := A6 hbi3; omega
 brL fun hli3 : (a.1.q).length <= d4 =>
 pQ (((i3 : Int) == (((a.1.q).length : Nat) : Int)) = false) (L6.2 (by omega)) (bN (iX (i3 : Int) (((a.1.q).length : Nat) : Int)) (ltC hi3) (bN (Nat.ble ((length (((g6 a.1) ++ flatMap d5 (take i3 a.1.q))) + length (N (getD a.1.q (Int.toNat (i3 : Int)) (Ty.dflt D (Ty.st 2))).seq)) * j0 Tp 5) d4) (j3 136 (m9 (k := 3) z7 (show ((g6 a.1)).length <= 40 * 40 by exact b0j m5 p8) q32) (i4 _) (by omega)) (
 bN (Nat.ble ((length ((((g6 a.1) ++ flatMap d5 (take i3 a.1.q)) ++ N (getD a.1.q (Int.toNat (i3 : Int)) (Ty.dflt D (Ty.st 2))).seq)) + length ((getD a.1.q (Int.toNat (i3 : Int)) (Ty.dflt D (Ty.st 2))).dig.l)) * j0 Tp 5) d4) (j3 137 (i7 (m9 (k := 3) z7 (show ((g6 a.1)).length <= 40 * 40 by exact b0j m5 p8) q32) (i4 _)) (a1f _) (by omega)) (
 bN (Nat.ble ((length (((((g6 a.1) ++ flatMap d5 (take i3 a.1.q)) ++ N (getD a.1.q (Int.toNat (i3 : Int)) (Ty.dflt D (Ty.st 2))).seq) ++ (getD a.1.q (Int.toNat (i3 : Int)) (Ty.dflt D (Ty.st 2))).dig.l)) + length (N (getD a.1.q (Int.toNat (i3 : Int)) (Ty.dflt D (Ty.st 2))).view)) * j0 Tp 5) d4) (j3 138 (i7 (i7 (m9 (k := 3) z7 (show ((g6 a.1)).length <= 40 * 40 by exact b0j m5 p8) q32) (i4 _)) (a1f _)) (i4 _) (by omega)) (
 (⟨i3 + 1, by
   show [SV.i .i64 (wrap .i64 ((i3 : Int) + 1))] = [iv ((i3 + 1 : Nat) : Int)]; rw [n4 hi3 hli3], by
   show ([HB.arr .u8 5 (((((g6 a.1) ++ flatMap d5 (take i3 a.1.q)) ++ N (getD a.1.q (Int.toNat (i3 : Int)) (Ty.dflt D (Ty.st 2))).seq) ++ (getD a.1.q (Int.toNat (i3 : Int)) (Ty.dflt D (Ty.st 2))).dig.l) ++ N (getD a.1.q (Int.toNat (i3 : Int)) (Ty.dflt D (Ty.st 2))).view)] : List (HB D)) = [HB.arr .u8 5 ((g6 a.1) ++ flatMap d5 (take (i3 + 1) a.1.q))]; rw [<- a5d (d := Ty.dflt D (Ty.st 2)) hi3]; show ([HB.arr .u8 5 (((((g6 a.1) ++ flatMap d5 (take i3 a.1.q)) ++ N (getD a.1.q (Int.toNat (i3 : Int)) (Ty.dflt D (Ty.st 2))).seq) ++ (getD a.1.q (Int.toNat (i3 : Int)) (Ty.dflt D (Ty.st 2))).dig.l) ++ N (getD a.1.q (Int.toNat (i3 : Int)) (Ty.dflt D (Ty.st 2))).view)] : List (HB D)) = [HB.arr .u8 5 (((g6 a.1) ++ flatMap d5 (take i3 a.1.q)) ++ d5 (getD a.1.q (Int.toNat (i3 : Int)) (Ty.dflt D (Ty.st 2))))]; unfold d5; simp only [B6], rfl, (show i3 + 1 <= (a.1.q).length from hi3), by show (a.1.q).length - (i3 + 1) < (a.1.q).length - i3; omega⟩ : Rnd (a9d ((g6 a.1)) d5 a.1.q 1) i3 [SV.i .i64 (wrap .i64 ((i3 : Int) + 1))] [HB.arr .u8 5 (((((g6 a.1) ++ flatMap d5 (take i3 a.1.q)) ++ N (getD a.1.q (Int.toNat (i3 : Int)) (Ty.dflt D (Ty.st 2))).seq) ++ (getD a.1.q (Int.toNat (i3 : Int)) (Ty.dflt D (Ty.st 2))).dig.l) ++ N (getD a.1.q (Int.toNat (i3 : Int)) (Ty.dflt D (Ty.st 2))).view)] [HB.box 184 [SV.own 0]]))))))) (fun hbi3 =>
 have hi3 : i3 = (a.1.q).length := by have := A9 hbi3; omega
 have e : ((g6 a.1) ++ flatMap d5 (take i3 a.1.q)) = d9 a.1 := by
   rw [<- d6q, hi3, D1]
 (by
  show some (((g6 a.1) ++ flatMap d5 (take i3 a.1.q)), (0 : Int), ()) = some (bif j8 a.1 then (d9 a.1, 0, ()) else ([], 2, ())); rw [hm, e]; rfl : some (((g6 a.1) ++ flatMap d5 (take i3 a.1.q)), (0 : Int), ()) = some (d3e.ret a)))))))))))))))
def g5f : a9c.ok Tp 83 := a4o.con f3q
def f3r : a9c.ok Tp 49 := Con.proveH (c := a9c) EF ZL (H := crH) (call := fun a => a3q EF ZL (fun _ => none) Γcr noO (crH a) 6) (fun a => a0q a0r.nil Kcr 6) fun (a : HL D a9c.ts) (_ : a9c.holds a) =>
 bq (!(a6e.ret a).fst) (fun h1 => (by
   show some ([], (2 : Int), ()) = some (bif j8 a.1 then (d9 a.1, 0, ()) else ([], 2, ())); have h : j8 a.1 = false := by have h1 : (!j8 a.1) = true := h1; simpa using h1
   rw [h]; rfl : some ([], (2 : Int), ()) = some (a9c.ret a))) (fun h1 =>
 have hm : j8 a.1 = true := by have h1 : (!j8 a.1) = false := h1; simpa using h1
 have H := a1t hm
 have m5 : a.1.mz.length <= 5 := by have := H.1.l; omega
 have p8 : a.1.p.length <= 8 := a8k H.2.1
 have q32 : a.1.q.length <= 32 := a8l H.2.2
 bN (Nat.ble ((length ([]) + length (N a.1.node)) * j0 Tp 5) d4) (j3 0 (B9 _) (i4 _) (by omega)) (
 bN (Nat.ble ((length (([] ++ N a.1.node)) + length (N a.1.view)) * j0 Tp 5) d4) (j3 1 d3b (i4 _) (by omega)) (
 bN (Nat.ble ((length ((([] ++ N a.1.node) ++ N a.1.view)) + length (N a.1.low)) * j0 Tp 5) d4) (j3 2 d3c (i4 _) (by omega)) (
 brL fun hlm : a.1.mz.length <= d4 =>
 bN (Nat.ble ((length (((([] ++ N a.1.node) ++ N a.1.view) ++ N a.1.low)) + length (N (((a.1.mz).length : Nat) : Int))) * j0 Tp 5) d4) (j3 3 d3d (i4 _) (by omega)) (
 And.intro (⟨(0 : Nat), rfl, by
   show ([HB.arr .u8 5 (((([] ++ N a.1.node) ++ N a.1.view) ++ N a.1.low) ++ N (((a.1.mz).length : Nat) : Int))] : List (HB D)) = [HB.arr .u8 5 (g4 a.1 ++ [])]; rw [D6]; rfl, rfl, C0 _⟩ : Ent (d0k (g4 a.1) j4 a.1.mz 5) [SV.own 0, SV.i .i64 0] [HB.arr .u8 5 (((([] ++ N a.1.node) ++ N a.1.view) ++ N a.1.low) ++ N (((a.1.mz).length : Nat) : Int))] []) (
 fun (i1 : Nat) (hIi1 : i1 <= (a.1.mz).length) =>
 brL fun hli1 : (a.1.mz).length <= d4 =>
 bq (decide ((i1 : Int) < ((a.1.mz).length : Nat))) (fun hbi1 =>
 have hi1 : i1 < (a.1.mz).length := by have := A6 hbi1; omega
 bN (iX (i1 : Int) (((a.1.mz).length : Nat) : Int)) (ltC hi1) (bN (Nat.ble ((length ((g4 a.1 ++ flatMap j4 (take i1 a.1.mz))) + length (N (getD a.1.mz (Int.toNat (i1 : Int)) (Ty.dflt D (Ty.st 1))).seq)) * j0 Tp 5) d4) (j3 14 (m9 (k := 2) a4q b2v m5) (i4 _) (by omega)) (
 bN (iX (i1 : Int) (((a.1.mz).length : Nat) : Int)) (ltC hi1) (bN (Nat.ble ((length (((g4 a.1 ++ flatMap j4 (take i1 a.1.mz)) ++ N (getD a.1.mz (Int.toNat (i1 : Int)) (Ty.dflt D (Ty.st 1))).seq)) + length ((getD a.1.mz (Int.toNat (i1 : Int)) (Ty.dflt D (Ty.st 1))).dig.l)) * j0 Tp 5) d4) (j3 15 (i7 (m9 (k := 2) a4q b2v m5) (i4 _)) (a1f _) (by omega)) (
 (⟨i1 + 1, by
   show [SV.own 0, SV.i .i64 (wrap .i64 ((i1 : Int) + 1))] = [SV.own 0, iv ((i1 + 1 : Nat) : Int)]; rw [n4 hi1 hli1], by
   show ([HB.arr .u8 5 (((g4 a.1 ++ flatMap j4 (take i1 a.1.mz)) ++ N (getD a.1.mz (Int.toNat (i1 : Int)) (Ty.dflt D (Ty.st 1))).seq) ++ (getD a.1.mz (Int.toNat (i1 : Int)) (Ty.dflt D (Ty.st 1))).dig.l)] : List (HB D)) = [HB.arr .u8 5 (g4 a.1 ++ flatMap j4 (take (i1 + 1) a.1.mz))]; rw [<- a5d (d := Ty.dflt D (Ty.st 1)) hi1]; show ([HB.arr .u8 5 (((g4 a.1 ++ flatMap j4 (take i1 a.1.mz)) ++ N (getD a.1.mz (Int.toNat (i1 : Int)) (Ty.dflt D (Ty.st 1))).seq) ++ (getD a.1.mz (Int.toNat (i1 : Int)) (Ty.dflt D (Ty.st 1))).dig.l)] : List (HB D)) = [HB.arr .u8 5 ((g4 a.1 ++ flatMap j4 (take i1 a.1.mz)) ++ j4 (getD a.1.mz (Int.toNat (i1 : Int)) (Ty.dflt D (Ty.st 1))))]; unfold j4; simp only [B6], rfl, (show i1 + 1 <= (a.1.mz).length from hi1), by show (a.1.mz).length - (i1 + 1) < (a.1.mz).length - i1; omega⟩ : Rnd (d0k (g4 a.1) j4 a.1.mz 5) i1 [SV.own 0, SV.i .i64 (wrap .i64 ((i1 : Int) + 1))] [HB.arr .u8 5 (((g4 a.1 ++ flatMap j4 (take i1 a.1.mz)) ++ N (getD a.1.mz (Int.toNat (i1 : Int)) (Ty.dflt D (Ty.st 1))).seq) ++ (getD a.1.mz (Int.toNat (i1 : Int)) (Ty.dflt D (Ty.st 1))).dig.l)] [])))))) (fun hbi1 =>
 have hi1 : i1 = (a.1.mz).length := by have := A9 hbi1; omega
 brL fun hlp : a.1.p.length <= d4 =>
 have e5 : ((g4 a.1 ++ flatMap j4 (take i1 a.1.mz)) ++ N (((a.1.p).length : Nat) : Int)) = g5 a.1 := by unfold g5; rw [hi1, D1]
 bN (Nat.ble ((length ((g4 a.1 ++ flatMap j4 (take i1 a.1.mz))) + length (N (((a.1.p).length : Nat) : Int))) * j0 Tp 5) d4) (j3 14 (m9 (k := 2) a4q b2v m5) (i4 _) (by omega)) (
 And.intro (⟨(0 : Nat), rfl, by
   show ([HB.arr .u8 5 ((g4 a.1 ++ flatMap j4 (take i1 a.1.mz)) ++ N (((a.1.p).length : Nat) : Int))] : List (HB D)) = [HB.arr .u8 5 (((g4 a.1 ++ flatMap j4 (take i1 a.1.mz)) ++ N (((a.1.p).length : Nat) : Int)) ++ [])]; rw [D6], rfl, C0 _⟩ : Ent (d0k (((g4 a.1 ++ flatMap j4 (take i1 a.1.mz)) ++ N (((a.1.p).length : Nat) : Int))) d5 a.1.p 5) [SV.own 0, SV.i .i64 0] [HB.arr .u8 5 ((g4 a.1 ++ flatMap j4 (take i1 a.1.mz)) ++ N (((a.1.p).length : Nat) : Int))] []) (
 fun (i2 : Nat) (hIi2 : i2 <= (a.1.p).length) =>
 brL fun hli2 : (a.1.p).length <= d4 =>
 bq (decide ((i2 : Int) < ((a.1.p).length : Nat))) (fun hbi2 =>
 have hi2 : i2 < (a.1.p).length := by have := A6 hbi2; omega
 bN (iX (i2 : Int) (((a.1.p).length : Nat) : Int)) (ltC hi2) (bN (Nat.ble ((length ((((g4 a.1 ++ flatMap j4 (take i1 a.1.mz)) ++ N (((a.1.p).length : Nat) : Int)) ++ flatMap d5 (take i2 a.1.p))) + length (N (getD a.1.p (Int.toNat (i2 : Int)) (Ty.dflt D (Ty.st 2))).seq)) * j0 Tp 5) d4) (j3 39 (m9 (k := 3) z7 (show (((g4 a.1 ++ flatMap j4 (take i1 a.1.mz)) ++ N (((a.1.p).length : Nat) : Int))).length <= 40 * 15 by rw [e5]; exact a8j m5) p8) (i4 _) (by omega)) (
 bN (iX (i2 : Int) (((a.1.p).length : Nat) : Int)) (ltC hi2) (bN (Nat.ble ((length (((((g4 a.1 ++ flatMap j4 (take i1 a.1.mz)) ++ N (((a.1.p).length : Nat) : Int)) ++ flatMap d5 (take i2 a.1.p)) ++ N (getD a.1.p (Int.toNat (i2 : Int)) (Ty.dflt D (Ty.st 2))).seq)) + length ((getD a.1.p (Int.toNat (i2 : Int)) (Ty.dflt D (Ty.st 2))).dig.l)) * j0 Tp 5) d4) (j3 40 (i7 (m9 (k := 3) z7 (show (((g4 a.1 ++ flatMap j4 (take i1 a.1.mz)) ++ N (((a.1.p).length : Nat) : Int))).length <= 40 * 15 by rw [e5]; exact a8j m5) p8) (i4 _)) (a1f _) (by omega)) (
 bN (iX (i2 : Int) (((a.1.p).length : Nat) : Int)) (ltC hi2) (bN (Nat.ble ((length ((((((g4 a.1 ++ flatMap j4 (take i1 a.1.mz)) ++ N (((a.1.p).length : Nat) : Int)) ++ flatMap d5 (take i2 a.1.p)) ++ N (getD a.1.p (Int.toNat (i2 : Int)) (Ty.dflt D (Ty.st 2))).seq) ++ (getD a.1.p (Int.toNat (i2 : Int)) (Ty.dflt D (Ty.st 2))).dig.l)) + length (N (getD a.1.p (Int.toNat (i2 : Int)) (Ty.dflt D (Ty.st 2))).view)) * j0 Tp 5) d4) (j3 41 (i7 (i7 (m9 (k := 3) z7 (show (((g4 a.1 ++ flatMap j4 (take i1 a.1.mz)) ++ N (((a.1.p).length : Nat) : Int))).length <= 40 * 15 by rw [e5]; exact a8j m5) p8) (i4 _)) (a1f _)) (i4 _) (by omega)) (
 (⟨i2 + 1, by
   show [SV.own 0, SV.i .i64 (wrap .i64 ((i2 : Int) + 1))] = [SV.own 0, iv ((i2 + 1 : Nat) : Int)]; rw [n4 hi2 hli2], by
   show ([HB.arr .u8 5 ((((((g4 a.1 ++ flatMap j4 (take i1 a.1.mz)) ++ N (((a.1.p).length : Nat) : Int)) ++ flatMap d5 (take i2 a.1.p)) ++ N (getD a.1.p (Int.toNat (i2 : Int)) (Ty.dflt D (Ty.st 2))).seq) ++ (getD a.1.p (Int.toNat (i2 : Int)) (Ty.dflt D (Ty.st 2))).dig.l) ++ N (getD a.1.p (Int.toNat (i2 : Int)) (Ty.dflt D (Ty.st 2))).view)] : List (HB D)) = [HB.arr .u8 5 (((g4 a.1 ++ flatMap j4 (take i1 a.1.mz)) ++ N (((a.1.p).length : Nat) : Int)) ++ flatMap d5 (take (i2 + 1) a.1.p))]; rw [<- a5d (d := Ty.dflt D (Ty.st 2)) hi2]; show ([HB.arr .u8 5 ((((((g4 a.1 ++ flatMap j4 (take i1 a.1.mz)) ++ N (((a.1.p).length : Nat) : Int)) ++ flatMap d5 (take i2 a.1.p)) ++ N (getD a.1.p (Int.toNat (i2 : Int)) (Ty.dflt D (Ty.st 2))).seq) ++ (getD a.1.p (Int.toNat (i2 : Int)) (Ty.dflt D (Ty.st 2))).dig.l) ++ N (getD a.1.p (Int.toNat (i2 : Int)) (Ty.dflt D (Ty.st 2))).view)] : List (HB D)) = [HB.arr .u8 5 ((((g4 a.1 ++ flatMap j4 (take i1 a.1.mz)) ++ N (((a.1.p).length : Nat) : Int)) ++ flatMap d5 (take i2 a.1.p)) ++ d5 (getD a.1.p (Int.toNat (i2 : Int)) (Ty.dflt D (Ty.st 2))))]; unfold d5; simp only [B6], rfl, (show i2 + 1 <= (a.1.p).length from hi2), by show (a.1.p).length - (i2 + 1) < (a.1.p).length - i2; omega⟩ : Rnd (d0k (((g4 a.1 ++ flatMap j4 (take i1 a.1.mz)) ++ N (((a.1.p).length : Nat) : Int))) d5 a.1.p 5) i2 [SV.own 0, SV.i .i64 (wrap .i64 ((i2 : Int) + 1))] [HB.arr .u8 5 ((((((g4 a.1 ++ flatMap j4 (take i1 a.1.mz)) ++ N (((a.1.p).length : Nat) : Int)) ++ flatMap d5 (take i2 a.1.p)) ++ N (getD a.1.p (Int.toNat (i2 : Int)) (Ty.dflt D (Ty.st 2))).seq) ++ (getD a.1.p (Int.toNat (i2 : Int)) (Ty.dflt D (Ty.st 2))).dig.l) ++ N (getD a.1.p (Int.toNat (i2 : Int)) (Ty.dflt D (Ty.st 2))).view)] [])))))))) (fun hbi2 =>
 have hi2 : i2 = (a.1.p).length := by have := A9 hbi2; omega
 brL fun hlq : a.1.q.length <= d4 =>
 have e6 : ((((g4 a.1 ++ flatMap j4 (take i1 a.1.mz)) ++ N (((a.1.p).length : Nat) : Int)) ++ flatMap d5 (take i2 a.1.p)) ++ N (((a.1.q).length : Nat) : Int)) = g6 a.1 := by unfold g6; rw [hi2, D1]; rw [e5]
 bN (Nat.ble ((length ((((g4 a.1 ++ flatMap j4 (take i1 a.1.mz)) ++ N (((a.1.p).length : Nat) : Int)) ++ flatMap d5 (take i2 a.1.p))) + length (N (((a.1.q).length : Nat) : Int))) * j0 Tp 5) d4) (j3 39 (m9 (k := 3) z7 (show (((g4 a.1 ++ flatMap j4 (take i1 a.1.mz)) ++ N (((a.1.p).length : Nat) : Int))).length <= 40 * 15 by rw [e5]; exact a8j m5) p8) (i4 _) (by omega)) (
 And.intro (⟨(0 : Nat), rfl, by
   show ([HB.arr .u8 5 ((((g4 a.1 ++ flatMap j4 (take i1 a.1.mz)) ++ N (((a.1.p).length : Nat) : Int)) ++ flatMap d5 (take i2 a.1.p)) ++ N (((a.1.q).length : Nat) : Int))] : List (HB D)) = [HB.arr .u8 5 (((((g4 a.1 ++ flatMap j4 (take i1 a.1.mz)) ++ N (((a.1.p).length : Nat) : Int)) ++ flatMap d5 (take i2 a.1.p)) ++ N (((a.1.q).length : Nat) : Int)) ++ [])]; rw [D6], rfl, C0 _⟩ : Ent (d0k (((((g4 a.1 ++ flatMap j4 (take i1 a.1.mz)) ++ N (((a.1.p).length : Nat) : Int)) ++ flatMap d5 (take i2 a.1.p)) ++ N (((a.1.q).length : Nat) : Int))) d5 a.1.q 5) [SV.own 0, SV.i .i64 0] [HB.arr .u8 5 ((((g4 a.1 ++ flatMap j4 (take i1 a.1.mz)) ++ N (((a.1.p).length : Nat) : Int)) ++ flatMap d5 (take i2 a.1.p)) ++ N (((a.1.q).length : Nat) : Int))] []) (
 fun (i3 : Nat) (hIi3 : i3 <= (a.1.q).length) =>
 brL fun hli3 : (a.1.q).length <= d4 =>
 bq (decide ((i3 : Int) < ((a.1.q).length : Nat))) (fun hbi3 =>
 have hi3 : i3 < (a.1.q).length := by have := A6 hbi3; omega
 bN (iX (i3 : Int) (((a.1.q).length : Nat) : Int)) (ltC hi3) (bN (Nat.ble ((length ((((((g4 a.1 ++ flatMap j4 (take i1 a.1.mz)) ++ N (((a.1.p).length : Nat) : Int)) ++ flatMap d5 (take i2 a.1.p)) ++ N (((a.1.q).length : Nat) : Int)) ++ flatMap d5 (take i3 a.1.q))) + length (N (getD a.1.q (Int.toNat (i3 : Int)) (Ty.dflt D (Ty.st 2))).seq)) * j0 Tp 5) d4) (j3 136 (m9 (k := 3) z7 (show (((((g4 a.1 ++ flatMap j4 (take i1 a.1.mz)) ++ N (((a.1.p).length : Nat) : Int)) ++ flatMap d5 (take i2 a.1.p)) ++ N (((a.1.q).length : Nat) : Int))).length <= 40 * 40 by rw [e6]; exact b0j m5 p8) q32) (i4 _) (by omega)) (
 bN (iX (i3 : Int) (((a.1.q).length : Nat) : Int)) (ltC hi3) (bN (Nat.ble ((length (((((((g4 a.1 ++ flatMap j4 (take i1 a.1.mz)) ++ N (((a.1.p).length : Nat) : Int)) ++ flatMap d5 (take i2 a.1.p)) ++ N (((a.1.q).length : Nat) : Int)) ++ flatMap d5 (take i3 a.1.q)) ++ N (getD a.1.q (Int.toNat (i3 : Int)) (Ty.dflt D (Ty.st 2))).seq)) + length ((getD a.1.q (Int.toNat (i3 : Int)) (Ty.dflt D (Ty.st 2))).dig.l)) * j0 Tp 5) d4) (j3 137 (i7 (m9 (k := 3) z7 (show (((((g4 a.1 ++ flatMap j4 (take i1 a.1.mz)) ++ N (((a.1.p).length : Nat) : Int)) ++ flatMap d5 (take i2 a.1.p)) ++ N (((a.1.q).length : Nat) : Int))).length <= 40 * 40 by rw [e6]; exact b0j m5 p8) q32) (i4 _)) (a1f _) (by omega)) (
 bN (iX (i3 : Int) (((a.1.q).length : Nat) : Int)) (ltC hi3) (bN (Nat.ble ((length ((((((((g4 a.1 ++ flatMap j4 (take i1 a.1.mz)) ++ N (((a.1.p).length : Nat) : Int)) ++ flatMap d5 (take i2 a.1.p)) ++ N (((a.1.q).length : Nat) : Int)) ++ flatMap d5 (take i3 a.1.q)) ++ N (getD a.1.q (Int.toNat (i3 : Int)) (Ty.dflt D (Ty.st 2))).seq) ++ (getD a.1.q (Int.toNat (i3 : Int)) (Ty.dflt D (Ty.st 2))).dig.l)) + length (N (getD a.1.q (Int.toNat (i3 : Int)) (Ty.dflt D (Ty.st 2))).view)) * j0 Tp 5) d4) (j3 138 (i7 (i7 (m9 (k := 3) z7 (show (((((g4 a.1 ++ flatMap j4 (take i1 a.1.mz)) ++ N (((a.1.p).length : Nat) : Int)) ++ flatMap d5 (take i2 a.1.p)) ++ N (((a.1.q).length : Nat) : Int))).length <= 40 * 40 by rw [e6]; exact b0j m5 p8) q32) (i4 _)) (a1f _)) (i4 _) (by omega)) (
 (⟨i3 + 1, by
   show [SV.own 0, SV.i .i64 (wrap .i64 ((i3 : Int) + 1))] = [SV.own 0, iv ((i3 + 1 : Nat) : Int)]; rw [n4 hi3 hli3], by
   show ([HB.arr .u8 5 ((((((((g4 a.1 ++ flatMap j4 (take i1 a.1.mz)) ++ N (((a.1.p).length : Nat) : Int)) ++ flatMap d5 (take i2 a.1.p)) ++ N (((a.1.q).length : Nat) : Int)) ++ flatMap d5 (take i3 a.1.q)) ++ N (getD a.1.q (Int.toNat (i3 : Int)) (Ty.dflt D (Ty.st 2))).seq) ++ (getD a.1.q (Int.toNat (i3 : Int)) (Ty.dflt D (Ty.st 2))).dig.l) ++ N (getD a.1.q (Int.toNat (i3 : Int)) (Ty.dflt D (Ty.st 2))).view)] : List (HB D)) = [HB.arr .u8 5 (((((g4 a.1 ++ flatMap j4 (take i1 a.1.mz)) ++ N (((a.1.p).length : Nat) : Int)) ++ flatMap d5 (take i2 a.1.p)) ++ N (((a.1.q).length : Nat) : Int)) ++ flatMap d5 (take (i3 + 1) a.1.q))]; rw [<- a5d (d := Ty.dflt D (Ty.st 2)) hi3]; show ([HB.arr .u8 5 ((((((((g4 a.1 ++ flatMap j4 (take i1 a.1.mz)) ++ N (((a.1.p).length : Nat) : Int)) ++ flatMap d5 (take i2 a.1.p)) ++ N (((a.1.q).length : Nat) : Int)) ++ flatMap d5 (take i3 a.1.q)) ++ N (getD a.1.q (Int.toNat (i3 : Int)) (Ty.dflt D (Ty.st 2))).seq) ++ (getD a.1.q (Int.toNat (i3 : Int)) (Ty.dflt D (Ty.st 2))).dig.l) ++ N (getD a.1.q (Int.toNat (i3 : Int)) (Ty.dflt D (Ty.st 2))).view)] : List (HB D)) = [HB.arr .u8 5 ((((((g4 a.1 ++ flatMap j4 (take i1 a.1.mz)) ++ N (((a.1.p).length : Nat) : Int)) ++ flatMap d5 (take i2 a.1.p)) ++ N (((a.1.q).length : Nat) : Int)) ++ flatMap d5 (take i3 a.1.q)) ++ d5 (getD a.1.q (Int.toNat (i3 : Int)) (Ty.dflt D (Ty.st 2))))]; unfold d5; simp only [B6], rfl, (show i3 + 1 <= (a.1.q).length from hi3), by show (a.1.q).length - (i3 + 1) < (a.1.q).length - i3; omega⟩ : Rnd (d0k (((((g4 a.1 ++ flatMap j4 (take i1 a.1.mz)) ++ N (((a.1.p).length : Nat) : Int)) ++ flatMap d5 (take i2 a.1.p)) ++ N (((a.1.q).length : Nat) : Int))) d5 a.1.q 5) i3 [SV.own 0, SV.i .i64 (wrap .i64 ((i3 : Int) + 1))] [HB.arr .u8 5 ((((((((g4 a.1 ++ flatMap j4 (take i1 a.1.mz)) ++ N (((a.1.p).length : Nat) : Int)) ++ flatMap d5 (take i2 a.1.p)) ++ N (((a.1.q).length : Nat) : Int)) ++ flatMap d5 (take i3 a.1.q)) ++ N (getD a.1.q (Int.toNat (i3 : Int)) (Ty.dflt D (Ty.st 2))).seq) ++ (getD a.1.q (Int.toNat (i3 : Int)) (Ty.dflt D (Ty.st 2))).dig.l) ++ N (getD a.1.q (Int.toNat (i3 : Int)) (Ty.dflt D (Ty.st 2))).view)] [])))))))) (fun hbi3 =>
 have hi3 : i3 = (a.1.q).length := by have := A9 hbi3; omega
 have e : (((((g4 a.1 ++ flatMap j4 (take i1 a.1.mz)) ++ N (((a.1.p).length : Nat) : Int)) ++ flatMap d5 (take i2 a.1.p)) ++ N (((a.1.q).length : Nat) : Int)) ++ flatMap d5 (take i3 a.1.q)) = d9 a.1 := by
   rw [<- d6q, hi3, D1]; rw [e6]
 (by
  show some ((((((g4 a.1 ++ flatMap j4 (take i1 a.1.mz)) ++ N (((a.1.p).length : Nat) : Int)) ++ flatMap d5 (take i2 a.1.p)) ++ N (((a.1.q).length : Nat) : Int)) ++ flatMap d5 (take i3 a.1.q)), (0 : Int), ()) = some (bif j8 a.1 then (d9 a.1, 0, ()) else ([], 2, ())); rw [hm, e]; rfl : some ((((((g4 a.1 ++ flatMap j4 (take i1 a.1.mz)) ++ N (((a.1.p).length : Nat) : Int)) ++ flatMap d5 (take i2 a.1.p)) ++ N (((a.1.q).length : Nat) : Int)) ++ flatMap d5 (take i3 a.1.q)), (0 : Int), ()) = some (a9c.ret a)))))))))))))))
end
end Go.Proofs.YtpbcabanpppfoaaGreat
namespace Go.Proofs.YtpbcabanpppfoaaGreat
open Go Go.Gx Go.Vz
open Go.IntKind (wrap)
open List (flatMap getD length take replicate)
set_option maxRecDepth 100000
noncomputable section
def c0z : ∀ (f n : Nat), n < 256 ^ f -> a4f (p9 f n) = n
 | 0, n, h => by simp at h; subst h; rfl
 | f + 1, n, h => by
  rcases S4 n with rfl | hn
  ·rfl
  ·obtain ⟨g, hg, e, hq⟩ := b5t hn h; obtain rfl : f = g := by omega
   rw [e, c0p, c0z f _ hq, Y4]; have : n % 256 % 2 ^ 8 = n % 256 := Nat.mod_mod _ _; omega
def c1a : ∀ (f j n : Nat), n < 256 ^ j -> (p9 f n).length <= j
 | 0, _, _, _ => C0 _
 | f + 1, j, n, h => by
  rcases S4 n with rfl | hn
  ·rw [b2q]; exact C0 _
  ·cases j with
   | zero => simp at h; omega
   | succ j =>
    have hb : Nat.beq n 0 = false := by cases n with | zero => omega | succ n => rfl
    have : n / 256 < 256 ^ j := by rw [R5] at h; omega
    have := c1a f j _ this; simp only [p9, hb, B8, B7, E9]; omega
def c1b : ∀ (f n : Nat), 0 < n -> n < 256 ^ f -> 0 < (p9 f n).length /\ ((p9 f n).getD 0 0).toNat ≠ 0
 | 0, n, h, h2 => by simp at h2; omega
 | f + 1, n, hn, h => by
  obtain ⟨g, hg, e, hq⟩ := b5t hn h; obtain rfl : f = g := by omega
  rw [e]; refine ⟨by simp, ?_⟩; rcases S4 (n / 256) with h0 | h0
  ·rw [h0, b2q]; show (UInt8.ofNat (n % 256)).toNat ≠ 0; rw [Y4]; have : n % 256 % 2 ^ 8 = n % 256 := Nat.mod_mod _ _; omega
  ·obtain ⟨h1, h2⟩ := c1b f _ h0 hq; rw [B3, F4 h1, <- B3]; exact h2
def g5g (k : Nat) (h : k <= 9007199254740991) : N (k : Int) = b5u k := by
 show (c0o ((k : Int), ())).1 = _
 unfold c0o
 have h1 : decide ((k : Int) < 0) = false := by simp
 have h2 : decide (9007199254740991 < (k : Int)) = false := by simp; omega
 show (bif decide ((k : Int) < 0) then _ else bif decide (9007199254740991 < (k : Int)) then _ else _ : HL D [.sl .u8, .int]).1 = _
 rw [h1, h2]; rfl
def g5h (k : Nat) (h : k <= 9007199254740991) (r : List UInt8) : tkN (b5u k ++ r) = ((k : Int), r, 0) := by
 have hk : k < 256 ^ 7 := by omega
 have hk8 : k < 256 ^ 8 := by omega
 have hl := c1a 8 7 k hk
 have hf := c0z 8 k hk8
 have e0 : b5u k ++ r = UInt8.ofNat (p9 8 k).length :: (p9 8 k ++ r) := rfl
 have e1 : hdU (b5u k ++ r) = UInt8.ofNat (p9 8 k).length := rfl
 have e2 : tlU (b5u k ++ r) = p9 8 k ++ r := rfl
 have e3 : (UInt8.ofNat (p9 8 k).length).toNat = (p9 8 k).length := by rw [Y4]; exact N3 (by omega)
 have c1 : decide (7 < (p9 8 k).length) = false := by simp; omega
 have c2 : decide ((p9 8 k ++ r).length < (p9 8 k).length) = false := by simp
 have c3 : (decide (0 < (p9 8 k).length) && decide (((p9 8 k ++ r).getD 0 0).toNat = 0)) = false := by
  rcases S4 k with rfl | h0
  ·rfl
  ·obtain ⟨h1, h2⟩ := c1b 8 k h0 hk8; have : ((p9 8 k ++ r).getD 0 0).toNat ≠ 0 := by
    rw [B3, F4 h1, <- B3]; exact h2
   rw [E5 this, O5]
 have c4 : decide (9007199254740991 < k) = false := by simp; omega
 have c0 : Nat.beq (b5u k ++ r).length 0 = false := rfl
 unfold tkN
 rw [e1, e2, e3, c0, c1, c2, c3, K5, hf, c4, N9]
 rfl
def g8a {x : Int} (h0 : 0 <= x) (h : x <= 9007199254740991) (r : List UInt8) : m8.ret (N x ++ r, ()) = (x, r, 0, ()) := by
 show R3 (tkN (N x ++ r)) = _
 obtain ⟨k, rfl⟩ : ∃ k : Nat, x = (k : Int) := ⟨x.toNat, by omega⟩
 rw [g5g k (by omega), g5h k (by omega)]
def g8b (d : Dig) (r : List UInt8) : a0v.ret (d.l ++ r, 32, ()) = (d.l, r, 0, ()) := by
 have h : tkF (d.l ++ r) 32 = (d.l, r, 0) := by
  unfold tkF; have c2 : decide (((d.l ++ r).length : Int) < 32) = false := by simp [d.h]; omega
  rw [show decide ((32 : Int) < 0) = false from rfl, c2]; show ((d.l ++ r).take 32, (d.l ++ r).drop 32, (0 : Int)) = _; have e1 : (d.l ++ r).take 32 = d.l := by rw [<- d.h]; exact K5
  have e2 : (d.l ++ r).drop 32 = r := by rw [<- d.h]; exact N9
  rw [e1, e2]
 show ((tkF (d.l ++ r) 32).1, (tkF (d.l ++ r) 32).2.1, (tkF (d.l ++ r) 32).2.2, ()) = _
 rw [h]
def c6o {α : Type} {f : α -> List UInt8} {l : List α} {i : Nat} {d : α} (hi : i < l.length) (t : List UInt8) : (l.drop i).flatMap f ++ t = f (l.getD i d) ++ ((l.drop (i + 1)).flatMap f ++ t) := by
 rw [G9 hi, L7, B6]
 have : l.getD i d = l[i] := by rw [B3, B2 hi]; rfl
 rw [this]
def b5z (d : Dig) : c2d d.l = d := by
 have h := d.h
 unfold c2d
 split
 ·cases d with
  | mk l hl => simp [F9 (Y9 hl)]
 ·rename_i h2; exact absurd (by rw [h]; exact B9 32) h2
def a8m : i8 D := { ash := [.nm 0, .dat (.sl .u8), .dat .int], es := [.box 225 [.dat (.sl .u8), .dat .bool]], rsh := [.dat .bool], pes := [.box 225 [.dat (.sl .u8), .dat .bool]], pre := some (fun a e => e.1.2.1 = false /\ a.2.1 = 0), post := fun a _ => ((true, ()), ((a.1, false, ()), ())) }
def f0x : a8m.ok EF Tp 299 := i8.prove (c := a8m) EF Z0 K0 (H := fun _ _ _ _ => none) (n := 0) fun (a : CL D a8m.ash) (e : EL D a8m.es) (hp : a8m.holds a e) =>
 have p1 : e.1.2.1 = false := hp.1
 have p2 : a.2.1 = 0 := hp.2
 bq (e.1.2.1) (fun h1 => (by rw [p1] at h1; exact absurd h1 J3 : some ((!true, ()), (e.1.1, true, ()), ()) = some (a8m.post a e))) (fun _ =>
 bq (!a.2.1 != 0) (fun _ => (by rw [p2]; rfl : some ((!a.2.1 != 0, ()), (a.1, a.2.1 != 0, ()), ()) = some (a8m.post a e)))
 (fun h2 => (by rw [p2] at h2; exact absurd h2 (by decide) : some ((!a.2.1 != 0, ()), (e.1.1, a.2.1 != 0, ()), ()) = some (a8m.post a e))))
def c2j (n : d7) : d7 := ⟨7, n.sq, n.group, n.epoch, 0, 0, Dig.zero, [], ⟨0, [], 0, []⟩, 0, 0, n.change, [], [], 0, 0, [], [], []⟩
def b7q (n : d7) : d7 := ⟨8, n.sq, n.group, n.epoch, n.view, 0, n.dig, [], ⟨0, [], 0, []⟩, 0, n.node, ⟨0, 0, 0, [], [], []⟩, [], [], 0, 0, [], [], []⟩
structure hdN (n : d7) : Prop where
  g : 0 <= n.group /\ n.group <= 2
  e : 0 <= n.epoch /\ n.epoch <= 1048576
  s : 1 <= n.sq /\ n.sq <= 28
open Classical in
def a9e (n : d7) : Bool := decide (hdN n /\ j8 n.change = true /\ n.change.node = n.sq)
open Classical in
def b2w (n : d7) : Bool := decide (hdN n /\ (1 <= n.view /\ n.view <= 1048576) /\ (1 <= n.node /\ n.node <= 28) /\ n.node ≠ n.sq)
def a8n : Con D := { ts := [.st 7], rt := [.bool], pre := some (fun a => a.1.kind = 7), ret := fun a => (a9e a.1, ()) }
def a7e : Con D := { ts := [.st 7], rt := [.bool], pre := some (fun a => a.1.kind = 8), ret := fun a => (b2w a.1, ()) }
section
variable (n : d7)
def zq (i : Nat) : List UInt8 := (n.change.q.drop i).flatMap d5 ++ []
def z2 : List UInt8 := N (n.change.q.length : Nat) ++ zq n 0
def zp (i : Nat) : List UInt8 := (n.change.p.drop i).flatMap d5 ++ z2 n
def z0 : List UInt8 := N (n.change.p.length : Nat) ++ zp n 0
def zm (i : Nat) : List UInt8 := (n.change.mz.drop i).flatMap j4 ++ z0 n
def b0 : List UInt8 := N (n.change.mz.length : Nat) ++ zm n 0
def b1 : List UInt8 := N n.change.low ++ b0 n
def b2 : List UInt8 := N n.change.view ++ b1 n
def b3 : List UInt8 := N n.change.node ++ b2 n
def b4 : List UInt8 := N n.epoch ++ b3 n
def b5 : List UInt8 := N n.group ++ b4 n
def b6 : List UInt8 := N n.sq ++ b5 n
def b7 : List UInt8 := N 7 ++ b6 n
def k1 : List UInt8 := [] ++ N 7
def k2 : List UInt8 := k1 ++ N n.sq
def k3 : List UInt8 := k2 n ++ N n.group
def k4 : List UInt8 := k3 n ++ N n.epoch
def k5 : List UInt8 := k4 n ++ N n.change.node
def k6 : List UInt8 := k5 n ++ N n.change.view
def k7 : List UInt8 := k6 n ++ N n.change.low
def k8 : List UInt8 := k7 n ++ N (n.change.mz.length : Nat)
def k9 : List UInt8 := (k8 n ++ n.change.mz.flatMap j4) ++ N (n.change.p.length : Nat)
def k10 : List UInt8 := (k9 n ++ n.change.p.flatMap d5) ++ N (n.change.q.length : Nat)
end
def ifI (s : St D) (k : Nat) : Nat := match slV s k with | .ifc _ id _ => id | _ => 0
def ptI (s : St D) (k : Nat) : Nat := match slV s k with | .ptr id _ => id | _ => 0
def c4g : SV D -> Bool
 | .own _ => true
 | _ => false
def g5i (n : d7) (s : St D) : Option (HL D m8.rt) := match slV s 1 with
  | .ptr id off => bif Nat.beq id 0 then
      (bif Nat.beq off 0 then some (7, b6 n, 0, ()) else bif Nat.beq off 1 then some (n.sq, b5 n, 0, ()) else bif Nat.beq off 2 then some (n.group, b4 n, 0, ()) else bif Nat.beq off 3 then some (n.epoch, b3 n, 0, ())
       else bif Nat.beq off 45 then some (n.change.node, b2 n, 0, ()) else bif Nat.beq off 46 then some (n.change.view, b1 n, 0, ()) else bif Nat.beq off 47 then some (n.change.low, b0 n, 0, ()) else none)
      else bif c4g (hpC s 0 49) then some ((n.change.q.length : Nat), zq n 0, 0, ()) else bif c4g (hpC s 0 48) then some ((n.change.p.length : Nat), zp n 0, 0, ()) else some ((n.change.mz.length : Nat), zm n 0, 0, ())
  | .oel _ i _ off => bif c4g (hpC s 0 50) then (bif Nat.beq off 0 then some ((stA n.change.q i).seq, (stA n.change.q i).dig.l ++ (N (stA n.change.q i).view ++ zq n (i + 1)), 0, ()) else some ((stA n.change.q i).view, zq n (i + 1), 0, ()))
      else bif c4g (hpC s 0 49) then (bif Nat.beq off 0 then some ((stA n.change.p i).seq, (stA n.change.p i).dig.l ++ (N (stA n.change.p i).view ++ zp n (i + 1)), 0, ()) else some ((stA n.change.p i).view, zp n (i + 1), 0, ()))
      else some ((mkA n.change.mz i).seq, (mkA n.change.mz i).dig.l ++ zm n (i + 1), 0, ())
  | _ => none
def g5j (n : d7) (s : St D) : Option (HL D a0v.rt) := match slV s 1 with
 | .oel _ i _ _ => bif c4g (hpC s 0 50) then some ((stA n.change.q i).dig.l, N (stA n.change.q i).view ++ zq n (i + 1), 0, ())
  else bif c4g (hpC s 0 49) then some ((stA n.change.p i).dig.l, N (stA n.change.p i).view ++ zp n (i + 1), 0, ())
  else some ((mkA n.change.mz i).dig.l, zm n (i + 1), 0, ())
 | _ => none
def c6p (n : d7) (m p q : SV D) : List (SV D) := [iv 7, iv n.sq, iv n.group, iv n.epoch, iv 0, iv 0, .dig Dig.zero, .nils, iv 0, .nils, iv 0, .nils, iv 0, iv 0, iv n.change.node, iv n.change.view, iv n.change.low, m, p, q, .nils, .nils, iv 0, iv 0, .nils, .nils, .nils]
def e5x (n : d7) (r w : Nat) : LH D := ⟨Nat, [22], fun i => [iv (i : Int)], fun i => i <= n.change.mz.length, fun i => n.change.mz.length - i, [(.bx w 17, .st 1, 116)], fun i => [.arr (.st 1) 116 (n.change.mz.take i)], [r, w], fun i => [.box 225 [.sl .u8 (zm n i), .b false], .box 46 (c6p n (.own 0) .nils .nils)]⟩
def e5y (n : d7) (r w : Nat) : LH D := ⟨Nat, [22], fun i => [iv (i : Int)], fun i => i <= n.change.p.length, fun i => n.change.p.length - i, [(.bx w 17, .st 1, 116), (.bx w 18, .st 2, 118)], fun i => [.arr (.st 1) 116 n.change.mz, .arr (.st 2) 118 (n.change.p.take i)], [r, w], fun i => [.box 225 [.sl .u8 (zp n i), .b false], .box 46 (c6p n (.own 0) (.own 1) .nils)]⟩
def e5z (n : d7) (r w : Nat) : LH D := ⟨Nat, [22], fun i => [iv (i : Int)], fun i => i <= n.change.q.length, fun i => n.change.q.length - i, [(.bx w 17, .st 1, 116), (.bx w 18, .st 2, 118), (.bx w 19, .st 2, 118)], fun i => [.arr (.st 1) 116 n.change.mz, .arr (.st 2) 118 n.change.p, .arr (.st 2) 118 (n.change.q.take i)], [r, w], fun i => [.box 225 [.sl .u8 (zq n i), .b false], .box 46 (c6p n (.own 0) (.own 1) (.own 2))]⟩
def rdH (n : d7) : Nat -> Nat -> Option (Hint D) := fun f r => match f, r with
 | 167, 2 => some (.dep fun s => .inv (e5x n (ifI s 0) (ptI s 1)))
 | 169, 2 => some (.dep fun s => bif decide (slI s 2 = 8) then .inv (e5y n (ifI s 0) (ptI s 1)) else .inv (e5z n (ifI s 0) (ptI s 1)))
 | 167, 5 => some (.sure true)
 | 169, 5 => some (.sure true)
 | 294, 5 => some (.sure false)
 | 155, 2 => some (.unr 5)
 | _, _ => none
def wrH (n : d7) : Nat -> Nat -> Option (Hint D) := fun f r => match f, r with
 | 167, 2 => some (.dep fun s => .inv (a9d (k8 n) j4 n.change.mz (ifI s 0)))
 | 169, 2 => some (.dep fun s => bif decide (slI s 2 = 8) then .inv (a9d (k9 n) d5 n.change.p (ifI s 0)) else .inv (a9d (k10 n) d5 n.change.q (ifI s 0)))
 | 167, 5 => some (.sure false)
 | 169, 5 => some (.sure false)
 | 155, 2 => some (.unr 5)
 | _, _ => none
abbrev Γwr : Nat -> Option (Con D) := i5 noC 286 a3a
def Kwr : n3 EF Tp Γwr noO := K0.c c6f
abbrev Γmy : Nat -> Option (Con D) := i5 (i5 noC 120 b0i) 152 a0d
def Kmy : n3 EF Tp Γmy noO := (K0.c f3p).c c3v
abbrev Δtk : Nat -> Option (i8 D) := u6 noO 299 a8m
def Ktk : n3 EF Tp noC Δtk := K0.o f0x
def c6q (tN : St D -> Option (HL D m8.rt)) (tD : St D -> Option (HL D a0v.rt)) (H : Nat -> Nat -> Option (Hint D)) : Nat -> j7 D
 | 0 => d2i EF m8 300 tN (d2i EF a0v 298 tD (a5t EF Δtk noH))
 | n + 1 => d2i EF m8 300 tN (d2i EF a0v 298 tD (a5t EF Δtk (inH EF ZL H (c6q tN tD H n))))
def b6a {tN : St D -> Option (HL D m8.rt)} {tD : St D -> Option (HL D a0v.rt)} {H : Nat -> Nat -> Option (Hint D)} : ∀ n, j5 Tp (c6q tN tD H n)
 | 0 => b8c d2q (b8c d2r (a1l EF Ktk.d a7a))
 | n + 1 => b8c d2q (b8c d2r (a1l EF Ktk.d (a2l EF ZL (b6a n))))
structure okB (n : d7) : Prop where
  h : hdN n
  c : j8 n.change = true
def d0l : Con D := { ts := [.st 7], rt := [.sl .u8], pre := some (fun a => a.1.kind = 7 /\ okB a.1), ret := fun a => (b7 a.1, ()) }
def d6r (n : d7) : Con D := { ts := [.sl .u8], rt := [.st 7, .bool], pre := some (fun a => a = (b7 n, ()) /\ okB n), ret := fun _ => (c2j n, true, ()) }
def shK (n : d7) : HL D [.st 7] := (⟨7, n.sq, n.group, n.epoch, n.view, n.seq, n.dig, n.batch, n.answer, n.stamp, n.node, n.change, n.changes, n.picks, n.level, n.place, n.digests, n.data, n.nodes⟩, ())
section
variable {n : d7}
theorem f0y {c : b8} (h : j8 c = true) : ∀ i, i < c.mz.length -> okM c.mz i := by
 unfold j8 at h
 simp only [A7, C6] at h
 exact h.1.2
theorem e6a {c : b8} (h : j8 c = true) : ∀ i, i < c.mz.length -> 0 <= (mkA c.mz i).seq /\ (mkA c.mz i).seq <= 9007199254740991
 | 0, _ => by
  have H := (a1t h).1; have := H.m; have := H.w; omega
 | i + 1, hi => by
  have h1 := e6a h i (by omega); have h2 := f0y h (i + 1) hi (by omega); simp only [Nat.add_sub_cancel] at h2; omega
open Classical in
theorem f8p {l : List i6} {low view many : Int} (h : a1n l low view many = true) : ∀ i, i < l.length -> okR l low view many i := by
 unfold a1n at h; exact (A6 h).2
theorem c6r {c : b8} {l : List i6} {many : Int} (h : j8 c = true) (hs : a1n l c.low c.view many = true) {i : Nat} (hi : i < l.length) : (0 <= (stA l i).seq /\ (stA l i).seq <= 9007199254740991) /\ (0 <= (stA l i).view /\ (stA l i).view <= 9007199254740991) := by
 have H := (a1t h).1
 have r := f8p hs i hi
 have := H.w; have := H.v
 have := r.a; have := r.b; have := r.c; have := r.d
 omega
theorem d3f {α : Type} {f : α -> List UInt8} {k b i : Nat} {l : List α} {r : List UInt8} {m : Nat} (h : ∀ x, (f x).length <= 40 * k) (hb : l.length <= b) (hr : r.length <= 40 * m) : ((l.drop i).flatMap f ++ r).length <= 40 * (k * b + m) := by
 have h1 := d3a h (l.drop i)
 have h2 : (l.drop i).length <= b := D5 (by rw [H7]; exact Nat.sub_le _ _) hb
 have h3 : k * (l.drop i).length <= k * b := Nat.mul_le_mul_left k h2
 rw [B7]; omega
theorem n8 {x : Int} {r : List UInt8} {m : Nat} (hr : r.length <= 40 * m) : (N x ++ r).length <= 40 * (m + 1) := by
 have := i4 x
 rw [B7]; omega
section
variable (m5 : n.change.mz.length <= 5) (p8 : n.change.p.length <= 8) (q32 : n.change.q.length <= 32)
include q32 in
theorem c6s (i : Nat) : (zq n i).length <= 40 * 96 := d3f (k := 3) (b := 32) (m := 0) z7 q32 (C0 _)
include p8 q32 in
theorem c1c (i : Nat) : (zp n i).length <= 40 * 121 := d3f (k := 3) (b := 8) (m := 97) z7 p8 (n8 (c6s q32 0))
include m5 p8 q32 in
theorem c6t (i : Nat) : (zm n i).length <= 40 * 132 := d3f (k := 2) (b := 5) (m := 122) a4q m5 (n8 (c1c p8 q32 0))
include m5 p8 q32 in
theorem b0k : (b0 n).length <= 40 * 133 := n8 (c6t m5 p8 q32 0)
end
theorem f0z {i : Nat} (hi : i < n.change.mz.length) : zm n i = N (mkA n.change.mz i).seq ++ ((mkA n.change.mz i).dig.l ++ zm n (i + 1)) := by
 unfold zm
 rw [c6o (d := Ty.dflt D (.st 1)) hi, show j4 (n.change.mz.getD i (Ty.dflt D (.st 1))) = N (mkA n.change.mz i).seq ++ (mkA n.change.mz i).dig.l from rfl, B6]
theorem f1a {i : Nat} (hi : i < n.change.p.length) : zp n i = N (stA n.change.p i).seq ++ ((stA n.change.p i).dig.l ++ (N (stA n.change.p i).view ++ zp n (i + 1))) := by
 unfold zp
 rw [c6o (d := Ty.dflt D (.st 2)) hi, show d5 (n.change.p.getD i (Ty.dflt D (.st 2))) = N (stA n.change.p i).seq ++ ((stA n.change.p i).dig.l ++ N (stA n.change.p i).view) from rfl, B6, B6]
theorem f1b {i : Nat} (hi : i < n.change.q.length) : zq n i = N (stA n.change.q i).seq ++ ((stA n.change.q i).dig.l ++ (N (stA n.change.q i).view ++ zq n (i + 1))) := by
 unfold zq
 rw [c6o (d := Ty.dflt D (.st 2)) hi, show d5 (n.change.q.getD i (Ty.dflt D (.st 2))) = N (stA n.change.q i).seq ++ ((stA n.change.q i).dig.l ++ N (stA n.change.q i).view) from rfl, B6, B6]
theorem f8q : zm n n.change.mz.length = z0 n := by unfold zm; rw [V7]; rfl
theorem f8r : zp n n.change.p.length = z2 n := by unfold zp; rw [V7]; rfl
theorem f8s : zq n n.change.q.length = [] := by unfold zq; rw [V7]; rfl
theorem rdN {B : List UInt8} {x : Int} {r : List UInt8} {k : Nat} (h : B = N x ++ r) (h0 : 0 <= x /\ x <= 9007199254740991) (hl : B.length <= 40 * k) (hk : k <= 1000) : m8.holds (B, ()) /\ m8.ret (B, ()) = (x, r, 0, ()) :=
 ⟨(show B.length <= 1000000 by omega), by rw [h]; exact g8a h0.1 h0.2 r⟩
theorem rdD {B : List UInt8} {d : Dig} {r : List UInt8} {k : Nat} (h : B = d.l ++ r) (hl : B.length <= 40 * k) (hk : k <= 1000) : a0v.holds (B, 32, ()) /\ a0v.ret (B, 32, ()) = (d.l, r, 0, ()) :=
 ⟨(show B.length <= 1000000 by omega), by rw [h]; exact g8b d r⟩
theorem e6b {d : Dig} {r : List UInt8} {m : Nat} (hr : r.length <= 40 * m) : (d.l ++ r).length <= 40 * (m + 1) := by
 have := a1f d
 rw [B7]; omega
def mkR (l : List Mark) (i : Nat) (m : Mark) : List Mark :=
 let l0 := l.take i ++ [⟨0, Dig.zero⟩]
 let l1 := l0.set i ⟨m.seq, (l0.getD i (Ty.dflt D (.st 1))).dig⟩
 l1.set i ⟨(l1.getD i (Ty.dflt D (.st 1))).seq, c2d m.dig.l⟩
def snR (l : List i6) (i : Nat) (m : i6) : List i6 :=
 let l0 := l.take i ++ [⟨0, Dig.zero, 0⟩]
 let l1 := l0.set i ⟨m.seq, (l0.getD i (Ty.dflt D (.st 2))).dig, (l0.getD i (Ty.dflt D (.st 2))).view⟩
 let l2 := l1.set i ⟨(l1.getD i (Ty.dflt D (.st 2))).seq, c2d m.dig.l, (l1.getD i (Ty.dflt D (.st 2))).view⟩
 l2.set i ⟨(l2.getD i (Ty.dflt D (.st 2))).seq, (l2.getD i (Ty.dflt D (.st 2))).dig, m.view⟩
theorem d0m {α : Type} {l : List α} {i : Nat} (hi : i <= l.length) (x y : α) : (l.take i ++ [x]).set i y = l.take i ++ [y] := by
 have : (l.take i).length = i := by rw [C4]; omega
 rw [List.set_append]
 simp [this]
theorem c4h {α : Type} {l : List α} {i : Nat} (hi : i <= l.length) (x d : α) : (l.take i ++ [x]).getD i d = x := by
 have : (l.take i).length = i := by rw [C4]; omega
 rw [B3, G7 (by omega)]
 simp [this]
theorem a7t {α : Type} {l : List α} {i : Nat} (hi : i < l.length) (d : α) : l.take i ++ [l.getD i d] = l.take (i + 1) := by
 rw [D9 hi]
 have : l.getD i d = l[i] := by rw [B3, B2 hi]; rfl
 rw [this]
theorem f8t {l : List Mark} {i : Nat} (hi : i < l.length) : mkR l i (mkA l i) = l.take (i + 1) := by
 unfold mkR
 simp only [d0m (O0 hi), c4h (O0 hi), b5z]
 exact a7t hi _
theorem e6c {l : List i6} {i : Nat} (hi : i < l.length) : snR l i (stA l i) = l.take (i + 1) := by
 unfold snR
 simp only [d0m (O0 hi), c4h (O0 hi), b5z]
 exact a7t hi _
theorem e6d : k1.length <= 40 * 1 := i7 (k := 0) (B9 _) (i4 _)
theorem e6e : (k2 n).length <= 40 * 2 := i7 e6d (i4 _)
theorem e6f : (k3 n).length <= 40 * 3 := i7 e6e (i4 _)
theorem e6g : (k4 n).length <= 40 * 4 := i7 e6f (i4 _)
theorem e6h : (k5 n).length <= 40 * 5 := i7 e6g (i4 _)
theorem e6i : (k6 n).length <= 40 * 6 := i7 e6h (i4 _)
theorem e6j : (k7 n).length <= 40 * 7 := i7 e6i (i4 _)
theorem c6u : (k8 n).length <= 40 * 8 := i7 e6j (i4 _)
theorem c1d (h : n.change.mz.length <= 5) : (k9 n).length <= 40 * 19 := i7 (k := 18) (by
 have := m9 (f := j4) (k := 2) (i := n.change.mz.length) a4q (c6u (n := n)) h
 rwa [D1] at this) (i4 _)
theorem c6v (h : n.change.mz.length <= 5) (h2 : n.change.p.length <= 8) : (k10 n).length <= 40 * 44 := i7 (k := 43) (by
 have := m9 (f := d5) (k := 3) (i := n.change.p.length) z7 (c1d h) h2
 rwa [D1] at this) (i4 _)
theorem g5k : k10 n ++ n.change.q.flatMap d5 = b7 n := by
 simp [k10, k9, k8, k7, k6, k5, k4, k3, k2, k1, b7, b6, b5, b4, b3, b2, b1, b0, zm, z0, zp, z2, zq, B6]
theorem rgI {lo x hi : Int} : (bif decide (lo <= x) then decide (x <= hi) else false) = decide (lo <= x /\ x <= hi) := by
 by_cases h1 : lo <= x <;> by_cases h2 : x <= hi <;> simp [h1, h2]
end
end
end Go.Proofs.YtpbcabanpppfoaaGreat
