/- A part of the proof. No condition. -/
import Derived.Test.YtpbcabanpppfoaaGreatA12
set_option linter.all false
namespace Go.Proofs.YtpbcabanpppfoaaGreat
open Go Go.Gx Go.Vz
open Go.IntKind (wrap)
open List (flatMap getD length take replicate)
set_option maxRecDepth 100000
noncomputable section
def g0y {k : Nat} (h : k <= 100) : Nat.ble ((k + 1) * m6 Tp 116) i5 = true := by
 rw [d6n]; exact D3 (by unfold i5; omega)
def e7v {k : Nat} (h : k <= 100) : Nat.ble ((k + 1) * m6 Tp 118) i5 = true := by
 rw [d0p]; exact D3 (by unfold i5; omega)
open Classical in
def no7 {n : i8} (hq : shK n = (n, ())) (h : ¬ hdN n) : some (false, ()) = some (a9l.ret (shK n)) := by
 rw [hq]
 show some (false, ()) = some (b0c n, ())
 have : b0c n = false := by unfold b0c; exact E5 fun g => h g.1
 rw [this]
def b3c {lo x hi : Int} : (a0w.ret (x, lo, hi, ())).1 = decide (lo <= x /\ x <= hi) := by
 show (c1p (x, lo, hi, ())).1 = _
 unfold c1p
 by_cases h1 : lo <= x <;> by_cases h2 : x <= hi <;> simp [h1, h2]
def b7d {a : HL D [.st 7]} (h : a.1.kind = 7) : a = shK a.1 := by
 obtain ⟨n, u⟩ := a
 cases n
 simp only at h
 subst h
 rfl
open Classical in
def f2s : a9l.ok Tp 114 := Con.proveHS (F := EF) (Z := ZL) (c := a9l) shK (fun n => shK n = (n, ())) (fun a h => ⟨a.1, b7d h, (b7d h).symm⟩) (H := fun _ => (fun _ _ => none)) (call := fun _ => a1a EF ZL Γmy noO (fun _ _ => none) 9) (fun _ => o0 ZL Kmy 9) fun (n : i8) (hq : shK n = (n, ())) =>
 bq ((a0w.ret (n.group, (0 : Int), (2 : Int), ())).1) (fun h1 =>
 bq ((a0w.ret (n.epoch, (0 : Int), (1048576 : Int), ())).1) (fun h2 =>
 bq ((a0w.ret (n.sq, (1 : Int), (28 : Int), ())).1) (fun h3 =>
 (by
  rw [b3c] at h1 h2 h3; rw [hq]; show some ((bif n8 n.change then n.change.node == n.sq else false), ()) = some (b0c n, ())
  congr 2
  unfold b0c; have h : hdN n := ⟨A6 h1, A6 h2, A6 h3⟩; cases hc : n8 n.change with
  | true => by_cases he : n.change.node = n.sq <;> simp [h, he]
  | false => simp : some ((bif n8 n.change then n.change.node == n.sq else false), ()) = some (a9l.ret (shK n)))) (fun h3 =>
 (no7 hq (fun h => by rw [b3c] at h3; exact A9 h3 h.s) : some (false, ()) = some (a9l.ret (shK n))))) (fun h2 =>
 (no7 hq (fun h => by rw [b3c] at h2; exact A9 h2 h.e) : some (false, ()) = some (a9l.ret (shK n))))) (fun h1 =>
 (no7 hq (fun h => by rw [b3c] at h1; exact A9 h1 h.g) : some (false, ()) = some (a9l.ret (shK n))))
def g0z : d1r.ok Tp 115 := Con.proveHS (F := EF) (Z := ZL) (c := d1r) shK okB (fun a h => ⟨a.1, b7d h.1, h.2⟩) (H := fun n => wrH n) (call := fun n => a1a EF ZL Γwr noO (wrH n) 9) (fun n => o0 ZL Kwr 9) fun (n : i8) (hn : okB n) =>
 have hd : hdN n := hn.h
 have hc : n8 n.change = true := hn.c
 have hm : hdM n.change := (a2m hc).1
 have hs2 := (a2m hc).2.1
 have hs3 := (a2m hc).2.2
 have m5 : n.change.mz.length <= 5 := by have := hm.l; omega
 have p8 : n.change.p.length <= 8 := a9i hs2
 have q32 : n.change.q.length <= 32 := a9j hs3
 have hl1 : n.change.mz.length <= i5 := D5 m5 (by decide)
 have hl2 : n.change.p.length <= i5 := D5 p8 (by decide)
 have hl3 : n.change.q.length <= i5 := D5 q32 (by decide)
 bN (Nat.ble ((length (([] ++ N 7)) + length (N n.sq)) * m6 Tp 5) i5) (m7 1 e7o (j5 _) (by omega)) (
 bN (Nat.ble ((length ((([] ++ N 7) ++ N n.sq)) + length (N n.group)) * m6 Tp 5) i5) (m7 2 e7p (j5 _) (by omega)) (
 bN (Nat.ble ((length (((([] ++ N 7) ++ N n.sq) ++ N n.group)) + length (N n.epoch)) * m6 Tp 5) i5) (m7 3 e7q (j5 _) (by omega)) (
 bN (Nat.ble ((length ((((([] ++ N 7) ++ N n.sq) ++ N n.group) ++ N n.epoch)) + length (N n.change.node)) * m6 Tp 5) i5) (m7 4 e7r (j5 _) (by omega)) (
 bN (Nat.ble ((length (((((([] ++ N 7) ++ N n.sq) ++ N n.group) ++ N n.epoch) ++ N n.change.node)) + length (N n.change.view)) * m6 Tp 5) i5) (m7 5 e7s (j5 _) (by omega)) (
 bN (Nat.ble ((length ((((((([] ++ N 7) ++ N n.sq) ++ N n.group) ++ N n.epoch) ++ N n.change.node) ++ N n.change.view)) + length (N n.change.low)) * m6 Tp 5) i5) (m7 6 e7t (j5 _) (by omega)) (
 brL fun hlm : n.change.mz.length <= i5 =>
 bN (Nat.ble ((length (((((((([] ++ N 7) ++ N n.sq) ++ N n.group) ++ N n.epoch) ++ N n.change.node) ++ N n.change.view) ++ N n.change.low)) + length (N (((n.change.mz).length : Nat) : Int))) * m6 Tp 5) i5) (m7 7 e7u (j5 _) (by omega)) (
 And.intro (⟨(0 : Nat), rfl, by
   show ([HB.arr .u8 5 (((((((([] ++ N 7) ++ N n.sq) ++ N n.group) ++ N n.epoch) ++ N n.change.node) ++ N n.change.view) ++ N n.change.low) ++ N (((n.change.mz).length : Nat) : Int))] : List (HB D)) = [HB.arr .u8 5 (k8 n ++ [])]; rw [D6]; rfl, rfl, C0 _⟩ : Ent (b0b (k8 n) m8 n.change.mz 1) [SV.i .i64 0] [HB.arr .u8 5 (((((((([] ++ N 7) ++ N n.sq) ++ N n.group) ++ N n.epoch) ++ N n.change.node) ++ N n.change.view) ++ N n.change.low) ++ N (((n.change.mz).length : Nat) : Int))] [HB.box 184 [SV.own 0]]) (
 fun (i1 : Nat) (hIi1 : i1 <= (n.change.mz).length) =>
 bq (decide ((i1 : Int) < ((n.change.mz).length : Nat))) (fun hbi1 =>
 have hi1 : i1 < (n.change.mz).length := by have := A6 hbi1; omega
 brL fun hli1 : (n.change.mz).length <= i5 =>
 pQ (((i1 : Int) == (((n.change.mz).length : Nat) : Int)) = false) (L6.2 (by omega)) (bN (iX (i1 : Int) (((n.change.mz).length : Nat) : Int)) (ltC hi1) (bN (Nat.ble ((length ((k8 n ++ flatMap m8 (take i1 n.change.mz))) + length (N (getD n.change.mz (Int.toNat (i1 : Int)) (Ty.dflt D (Ty.st 1))).seq)) * m6 Tp 5) i5) (m7 18 (o6 (k := 2) a5p c7z m5) (j5 _) (by omega)) (
 bN (Nat.ble ((length (((k8 n ++ flatMap m8 (take i1 n.change.mz)) ++ N (getD n.change.mz (Int.toNat (i1 : Int)) (Ty.dflt D (Ty.st 1))).seq)) + length ((getD n.change.mz (Int.toNat (i1 : Int)) (Ty.dflt D (Ty.st 1))).dig.l)) * m6 Tp 5) i5) (m7 19 (j7 (o6 (k := 2) a5p c7z m5) (j5 _)) (a1x _) (by omega)) (
 (⟨i1 + 1, by
   show [SV.i .i64 (wrap .i64 ((i1 : Int) + 1))] = [iv ((i1 + 1 : Nat) : Int)]; rw [o7 hi1 hli1], by
   show ([HB.arr .u8 5 (((k8 n ++ flatMap m8 (take i1 n.change.mz)) ++ N (getD n.change.mz (Int.toNat (i1 : Int)) (Ty.dflt D (Ty.st 1))).seq) ++ (getD n.change.mz (Int.toNat (i1 : Int)) (Ty.dflt D (Ty.st 1))).dig.l)] : List (HB D)) = [HB.arr .u8 5 (k8 n ++ flatMap m8 (take (i1 + 1) n.change.mz))]; rw [<- a6c (d := Ty.dflt D (Ty.st 1)) hi1]; show ([HB.arr .u8 5 (((k8 n ++ flatMap m8 (take i1 n.change.mz)) ++ N (getD n.change.mz (Int.toNat (i1 : Int)) (Ty.dflt D (Ty.st 1))).seq) ++ (getD n.change.mz (Int.toNat (i1 : Int)) (Ty.dflt D (Ty.st 1))).dig.l)] : List (HB D)) = [HB.arr .u8 5 ((k8 n ++ flatMap m8 (take i1 n.change.mz)) ++ m8 (getD n.change.mz (Int.toNat (i1 : Int)) (Ty.dflt D (Ty.st 1))))]; unfold m8; simp only [B6], rfl, (show i1 + 1 <= (n.change.mz).length from hi1), by show (n.change.mz).length - (i1 + 1) < (n.change.mz).length - i1; omega⟩ : Rnd (b0b (k8 n) m8 n.change.mz 1) i1 [SV.i .i64 (wrap .i64 ((i1 : Int) + 1))] [HB.arr .u8 5 (((k8 n ++ flatMap m8 (take i1 n.change.mz)) ++ N (getD n.change.mz (Int.toNat (i1 : Int)) (Ty.dflt D (Ty.st 1))).seq) ++ (getD n.change.mz (Int.toNat (i1 : Int)) (Ty.dflt D (Ty.st 1))).dig.l)] [HB.box 184 [SV.own 0]])))))) (fun hbi1 =>
 have hi1 : i1 = (n.change.mz).length := by have := A9 hbi1; omega
 brL fun hlp : n.change.p.length <= i5 =>
 have e5 : ((k8 n ++ flatMap m8 (take i1 n.change.mz)) ++ N (((n.change.p).length : Nat) : Int)) = k9 n := by unfold k9; rw [hi1, D1]
 bN (Nat.ble ((length ((k8 n ++ flatMap m8 (take i1 n.change.mz))) + length (N (((n.change.p).length : Nat) : Int))) * m6 Tp 5) i5) (m7 18 (o6 (k := 2) a5p c7z m5) (j5 _) (by omega)) (
 And.intro (⟨(0 : Nat), rfl, by
   show ([HB.arr .u8 5 ((k8 n ++ flatMap m8 (take i1 n.change.mz)) ++ N (((n.change.p).length : Nat) : Int))] : List (HB D)) = [HB.arr .u8 5 (k9 n ++ [])]; rw [D6]; rw [e5], rfl, C0 _⟩ : Ent (b0b (k9 n) i6 n.change.p 1) [SV.i .i64 0] [HB.arr .u8 5 ((k8 n ++ flatMap m8 (take i1 n.change.mz)) ++ N (((n.change.p).length : Nat) : Int))] [HB.box 184 [SV.own 0]]) (
 fun (i2 : Nat) (hIi2 : i2 <= (n.change.p).length) =>
 bq (decide ((i2 : Int) < ((n.change.p).length : Nat))) (fun hbi2 =>
 have hi2 : i2 < (n.change.p).length := by have := A6 hbi2; omega
 brL fun hli2 : (n.change.p).length <= i5 =>
 pQ (((i2 : Int) == (((n.change.p).length : Nat) : Int)) = false) (L6.2 (by omega)) (bN (iX (i2 : Int) (((n.change.p).length : Nat) : Int)) (ltC hi2) (bN (Nat.ble ((length ((k9 n ++ flatMap i6 (take i2 n.change.p))) + length (N (getD n.change.p (Int.toNat (i2 : Int)) (Ty.dflt D (Ty.st 2))).seq)) * m6 Tp 5) i5) (m7 43 (o6 (k := 3) a0s (c2i m5) p8) (j5 _) (by omega)) (
 bN (Nat.ble ((length (((k9 n ++ flatMap i6 (take i2 n.change.p)) ++ N (getD n.change.p (Int.toNat (i2 : Int)) (Ty.dflt D (Ty.st 2))).seq)) + length ((getD n.change.p (Int.toNat (i2 : Int)) (Ty.dflt D (Ty.st 2))).dig.l)) * m6 Tp 5) i5) (m7 44 (j7 (o6 (k := 3) a0s (c2i m5) p8) (j5 _)) (a1x _) (by omega)) (
 bN (Nat.ble ((length ((((k9 n ++ flatMap i6 (take i2 n.change.p)) ++ N (getD n.change.p (Int.toNat (i2 : Int)) (Ty.dflt D (Ty.st 2))).seq) ++ (getD n.change.p (Int.toNat (i2 : Int)) (Ty.dflt D (Ty.st 2))).dig.l)) + length (N (getD n.change.p (Int.toNat (i2 : Int)) (Ty.dflt D (Ty.st 2))).view)) * m6 Tp 5) i5) (m7 45 (j7 (j7 (o6 (k := 3) a0s (c2i m5) p8) (j5 _)) (a1x _)) (j5 _) (by omega)) (
 (⟨i2 + 1, by
   show [SV.i .i64 (wrap .i64 ((i2 : Int) + 1))] = [iv ((i2 + 1 : Nat) : Int)]; rw [o7 hi2 hli2], by
   show ([HB.arr .u8 5 ((((k9 n ++ flatMap i6 (take i2 n.change.p)) ++ N (getD n.change.p (Int.toNat (i2 : Int)) (Ty.dflt D (Ty.st 2))).seq) ++ (getD n.change.p (Int.toNat (i2 : Int)) (Ty.dflt D (Ty.st 2))).dig.l) ++ N (getD n.change.p (Int.toNat (i2 : Int)) (Ty.dflt D (Ty.st 2))).view)] : List (HB D)) = [HB.arr .u8 5 (k9 n ++ flatMap i6 (take (i2 + 1) n.change.p))]; rw [<- a6c (d := Ty.dflt D (Ty.st 2)) hi2]; show ([HB.arr .u8 5 ((((k9 n ++ flatMap i6 (take i2 n.change.p)) ++ N (getD n.change.p (Int.toNat (i2 : Int)) (Ty.dflt D (Ty.st 2))).seq) ++ (getD n.change.p (Int.toNat (i2 : Int)) (Ty.dflt D (Ty.st 2))).dig.l) ++ N (getD n.change.p (Int.toNat (i2 : Int)) (Ty.dflt D (Ty.st 2))).view)] : List (HB D)) = [HB.arr .u8 5 ((k9 n ++ flatMap i6 (take i2 n.change.p)) ++ i6 (getD n.change.p (Int.toNat (i2 : Int)) (Ty.dflt D (Ty.st 2))))]; unfold i6; simp only [B6], rfl, (show i2 + 1 <= (n.change.p).length from hi2), by show (n.change.p).length - (i2 + 1) < (n.change.p).length - i2; omega⟩ : Rnd (b0b (k9 n) i6 n.change.p 1) i2 [SV.i .i64 (wrap .i64 ((i2 : Int) + 1))] [HB.arr .u8 5 ((((k9 n ++ flatMap i6 (take i2 n.change.p)) ++ N (getD n.change.p (Int.toNat (i2 : Int)) (Ty.dflt D (Ty.st 2))).seq) ++ (getD n.change.p (Int.toNat (i2 : Int)) (Ty.dflt D (Ty.st 2))).dig.l) ++ N (getD n.change.p (Int.toNat (i2 : Int)) (Ty.dflt D (Ty.st 2))).view)] [HB.box 184 [SV.own 0]]))))))) (fun hbi2 =>
 have hi2 : i2 = (n.change.p).length := by have := A9 hbi2; omega
 brL fun hlq : n.change.q.length <= i5 =>
 have e6 : ((k9 n ++ flatMap i6 (take i2 n.change.p)) ++ N (((n.change.q).length : Nat) : Int)) = k10 n := by unfold k10; rw [hi2, D1]
 bN (Nat.ble ((length ((k9 n ++ flatMap i6 (take i2 n.change.p))) + length (N (((n.change.q).length : Nat) : Int))) * m6 Tp 5) i5) (m7 43 (o6 (k := 3) a0s (c2i m5) p8) (j5 _) (by omega)) (
 And.intro (⟨(0 : Nat), rfl, by
   show ([HB.arr .u8 5 ((k9 n ++ flatMap i6 (take i2 n.change.p)) ++ N (((n.change.q).length : Nat) : Int))] : List (HB D)) = [HB.arr .u8 5 (k10 n ++ [])]; rw [D6]; rw [e6], rfl, C0 _⟩ : Ent (b0b (k10 n) i6 n.change.q 1) [SV.i .i64 0] [HB.arr .u8 5 ((k9 n ++ flatMap i6 (take i2 n.change.p)) ++ N (((n.change.q).length : Nat) : Int))] [HB.box 184 [SV.own 0]]) (
 fun (i3 : Nat) (hIi3 : i3 <= (n.change.q).length) =>
 bq (decide ((i3 : Int) < ((n.change.q).length : Nat))) (fun hbi3 =>
 have hi3 : i3 < (n.change.q).length := by have := A6 hbi3; omega
 brL fun hli3 : (n.change.q).length <= i5 =>
 pQ (((i3 : Int) == (((n.change.q).length : Nat) : Int)) = false) (L6.2 (by omega)) (bN (iX (i3 : Int) (((n.change.q).length : Nat) : Int)) (ltC hi3) (bN (Nat.ble ((length ((k10 n ++ flatMap i6 (take i3 n.change.q))) + length (N (getD n.change.q (Int.toNat (i3 : Int)) (Ty.dflt D (Ty.st 2))).seq)) * m6 Tp 5) i5) (m7 140 (o6 (k := 3) a0s (c8a m5 p8) q32) (j5 _) (by omega)) (
 bN (Nat.ble ((length (((k10 n ++ flatMap i6 (take i3 n.change.q)) ++ N (getD n.change.q (Int.toNat (i3 : Int)) (Ty.dflt D (Ty.st 2))).seq)) + length ((getD n.change.q (Int.toNat (i3 : Int)) (Ty.dflt D (Ty.st 2))).dig.l)) * m6 Tp 5) i5) (m7 141 (j7 (o6 (k := 3) a0s (c8a m5 p8) q32) (j5 _)) (a1x _) (by omega)) (
 bN (Nat.ble ((length ((((k10 n ++ flatMap i6 (take i3 n.change.q)) ++ N (getD n.change.q (Int.toNat (i3 : Int)) (Ty.dflt D (Ty.st 2))).seq) ++ (getD n.change.q (Int.toNat (i3 : Int)) (Ty.dflt D (Ty.st 2))).dig.l)) + length (N (getD n.change.q (Int.toNat (i3 : Int)) (Ty.dflt D (Ty.st 2))).view)) * m6 Tp 5) i5) (m7 142 (j7 (j7 (o6 (k := 3) a0s (c8a m5 p8) q32) (j5 _)) (a1x _)) (j5 _) (by omega)) (
 (⟨i3 + 1, by
   show [SV.i .i64 (wrap .i64 ((i3 : Int) + 1))] = [iv ((i3 + 1 : Nat) : Int)]; rw [o7 hi3 hli3], by
   show ([HB.arr .u8 5 ((((k10 n ++ flatMap i6 (take i3 n.change.q)) ++ N (getD n.change.q (Int.toNat (i3 : Int)) (Ty.dflt D (Ty.st 2))).seq) ++ (getD n.change.q (Int.toNat (i3 : Int)) (Ty.dflt D (Ty.st 2))).dig.l) ++ N (getD n.change.q (Int.toNat (i3 : Int)) (Ty.dflt D (Ty.st 2))).view)] : List (HB D)) = [HB.arr .u8 5 (k10 n ++ flatMap i6 (take (i3 + 1) n.change.q))]; rw [<- a6c (d := Ty.dflt D (Ty.st 2)) hi3]; show ([HB.arr .u8 5 ((((k10 n ++ flatMap i6 (take i3 n.change.q)) ++ N (getD n.change.q (Int.toNat (i3 : Int)) (Ty.dflt D (Ty.st 2))).seq) ++ (getD n.change.q (Int.toNat (i3 : Int)) (Ty.dflt D (Ty.st 2))).dig.l) ++ N (getD n.change.q (Int.toNat (i3 : Int)) (Ty.dflt D (Ty.st 2))).view)] : List (HB D)) = [HB.arr .u8 5 ((k10 n ++ flatMap i6 (take i3 n.change.q)) ++ i6 (getD n.change.q (Int.toNat (i3 : Int)) (Ty.dflt D (Ty.st 2))))]; unfold i6; simp only [B6], rfl, (show i3 + 1 <= (n.change.q).length from hi3), by show (n.change.q).length - (i3 + 1) < (n.change.q).length - i3; omega⟩ : Rnd (b0b (k10 n) i6 n.change.q 1) i3 [SV.i .i64 (wrap .i64 ((i3 : Int) + 1))] [HB.arr .u8 5 ((((k10 n ++ flatMap i6 (take i3 n.change.q)) ++ N (getD n.change.q (Int.toNat (i3 : Int)) (Ty.dflt D (Ty.st 2))).seq) ++ (getD n.change.q (Int.toNat (i3 : Int)) (Ty.dflt D (Ty.st 2))).dig.l) ++ N (getD n.change.q (Int.toNat (i3 : Int)) (Ty.dflt D (Ty.st 2))).view)] [HB.box 184 [SV.own 0]]))))))) (fun hbi3 =>
 have hi3 : i3 = (n.change.q).length := by have := A9 hbi3; omega
 (by
  show some ((k10 n ++ flatMap i6 (take i3 n.change.q)), ()) = some (b7 n, ()); rw [hi3, D1, g7u] : some ((k10 n ++ flatMap i6 (take i3 n.change.q)), ()) = some (d1r.ret (shK n))))))))))))))))))
def g1a (n : i8) : (d7w n).ok Tp 116 := Con.proveHS (F := EF) (Z := ZL) (c := d7w n) (fun _ : Unit => (b7 n, ())) (fun _ => okB n) (fun a h => ⟨(), h.1, h.2⟩) (H := fun _ => rdH n) (call := fun _ => c7v (g7s n) (g7t n) (rdH n) 9) (fun _ => b7c 9) fun (_ : Unit) (hn : okB n) =>
 have hd : hdN n := hn.h
 have hc : n8 n.change = true := hn.c
 have hm : hdM n.change := (a2m hc).1
 have hs2 := (a2m hc).2.1
 have hs3 := (a2m hc).2.2
 have m5 : n.change.mz.length <= 5 := by have := hm.l; omega
 have p8 : n.change.p.length <= 8 := a9i hs2
 have q32 : n.change.q.length <= 32 := a9j hs3
 have hl1 : n.change.mz.length <= i5 := D5 m5 (by decide)
 have hl2 : n.change.p.length <= i5 := D5 p8 (by decide)
 have hl3 : n.change.q.length <= i5 := D5 q32 (by decide)
 pQ (o4.holds (b7 n, ()) /\ o4.ret (b7 n, ()) = (7, b6 n, 0, ())) (rdN (k := 140) (rfl) (by decide) (o9 (o9 (o9 (o9 (o9 (o9 (o9 (b1j m5 p8 q32)))))))) (by omega)) (pQ ((false : Bool) = false /\ (0 : Int) = 0) ⟨rfl, rfl⟩ (
 pQ (o4.holds (b6 n, ()) /\ o4.ret (b6 n, ()) = (n.sq, b5 n, 0, ())) (rdN (k := 139) (rfl) (by have := hd.s; omega) (o9 (o9 (o9 (o9 (o9 (o9 (b1j m5 p8 q32))))))) (by omega)) (pQ ((false : Bool) = false /\ (0 : Int) = 0) ⟨rfl, rfl⟩ (
 pQ (o4.holds (b5 n, ()) /\ o4.ret (b5 n, ()) = (n.group, b4 n, 0, ())) (rdN (k := 138) (rfl) (by have := hd.g; omega) (o9 (o9 (o9 (o9 (o9 (b1j m5 p8 q32)))))) (by omega)) (pQ ((false : Bool) = false /\ (0 : Int) = 0) ⟨rfl, rfl⟩ (
 pQ (o4.holds (b4 n, ()) /\ o4.ret (b4 n, ()) = (n.epoch, b3 n, 0, ())) (rdN (k := 137) (rfl) (by have := hd.e; omega) (o9 (o9 (o9 (o9 (b1j m5 p8 q32))))) (by omega)) (pQ ((false : Bool) = false /\ (0 : Int) = 0) ⟨rfl, rfl⟩ (
 pQ (o4.holds (b3 n, ()) /\ o4.ret (b3 n, ()) = (n.change.node, b2 n, 0, ())) (rdN (k := 136) (rfl) (by have := hm.n; omega) (o9 (o9 (o9 (b1j m5 p8 q32)))) (by omega)) (pQ ((false : Bool) = false /\ (0 : Int) = 0) ⟨rfl, rfl⟩ (
 pQ (o4.holds (b2 n, ()) /\ o4.ret (b2 n, ()) = (n.change.view, b1 n, 0, ())) (rdN (k := 135) (rfl) (by have := hm.v; omega) (o9 (o9 (b1j m5 p8 q32))) (by omega)) (pQ ((false : Bool) = false /\ (0 : Int) = 0) ⟨rfl, rfl⟩ (
 pQ (o4.holds (b1 n, ()) /\ o4.ret (b1 n, ()) = (n.change.low, b0 n, 0, ())) (rdN (k := 134) (rfl) (by have := hm.w; omega) (o9 (b1j m5 p8 q32)) (by omega)) (pQ ((false : Bool) = false /\ (0 : Int) = 0) ⟨rfl, rfl⟩ (
 pQ (o4.holds (b0 n, ()) /\ o4.ret (b0 n, ()) = ((((n.change.mz).length : Nat) : Int), zm n 0, 0, ())) (rdN (k := 133) (rfl) (by omega) (b1j m5 p8 q32) (by omega)) (pQ ((false : Bool) = false /\ (0 : Int) = 0) ⟨rfl, rfl⟩ (
 pQ ((bif false then true else decide (5 < (((n.change.mz).length : Nat) : Int))) = false) (by show decide (5 < (((n.change.mz).length : Nat) : Int)) = false; simp; omega) (And.intro (⟨(0 : Nat), rfl, rfl, rfl, C0 _⟩ : Ent (e7i n 1 0) [SV.i .i64 0] [HB.arr (.st 1) 116 ([])] [HB.box 225 [SV.sl .u8 (zm n 0), SV.b false], HB.box 46 (c7u n (.own 0) .nils .nils)]) (
 fun (i1 : Nat) (hIi1 : i1 <= (n.change.mz).length) =>
 bq (decide ((i1 : Int) < ((n.change.mz).length : Nat))) (fun hbi1 =>
 have hi1 : i1 < (n.change.mz).length := by have := A6 hbi1; omega
 pQ (((i1 : Int) == ((((n.change.mz).take i1).length : Nat) : Int)) = true) (by rw [C4, J0 (O0 hi1)]; exact Q5 _) (
 bN (Nat.ble ((length ((n.change.mz).take i1) + length ([⟨0, Dig.zero⟩] : List Mark)) * m6 Tp 116) i5) (g0y (by rw [C4]; omega)) (
 bN (iX (i1 : Int) ((((n.change.mz).take i1 ++ ([⟨0, Dig.zero⟩] : List Mark)).length : Nat) : Int)) (ltC (by rw [B7, C4, E9]; omega)) (
 pQ (o4.holds (zm n i1, ()) /\ o4.ret (zm n i1, ()) = ((mkA n.change.mz i1).seq, (mkA n.change.mz i1).dig.l ++ zm n (i1 + 1), 0, ())) (rdN (k := 132) (f2p hi1) (e7l hc _ hi1) (c7y m5 p8 q32 i1) (by omega)) (pQ ((false : Bool) = false /\ (0 : Int) = 0) ⟨rfl, rfl⟩ (pQ (a1n.holds ((mkA n.change.mz i1).dig.l ++ zm n (i1 + 1), 32, ()) /\ a1n.ret ((mkA n.change.mz i1).dig.l ++ zm n (i1 + 1), 32, ()) = ((mkA n.change.mz i1).dig.l, zm n (i1 + 1), 0, ())) (rdD (k := 133) (rfl) (e7m (c7y m5 p8 q32 _)) (by omega)) (pQ ((false : Bool) = false /\ (0 : Int) = 0) ⟨rfl, rfl⟩ (bN (decide ((32 : Nat) <= (mkA n.change.mz i1).dig.l.length)) (by rw [(mkA n.change.mz i1).dig.h]; rfl) ((⟨i1 + 1, by
   show [SV.i .i64 (wrap .i64 ((i1 : Int) + 1))] = [iv ((i1 + 1 : Nat) : Int)]; rw [o7 hi1 hl1], by
   show ([HB.arr (.st 1) 116 (mkR n.change.mz i1 (mkA n.change.mz i1))] : List (HB D)) = [HB.arr (.st 1) 116 ((n.change.mz).take (i1 + 1))]; rw [g0x hi1], rfl, (show i1 + 1 <= (n.change.mz).length from hi1), by show (n.change.mz).length - (i1 + 1) < (n.change.mz).length - i1; omega⟩ : Rnd (e7i n 1 0) i1 [SV.i .i64 (wrap .i64 ((i1 : Int) + 1))] [HB.arr (.st 1) 116 (mkR n.change.mz i1 (mkA n.change.mz i1))] [HB.box 225 [SV.sl .u8 (zm n (i1 + 1)), SV.b false], HB.box 46 (c7u n (.own 0) .nils .nils)])))))))))) (fun hbi1 =>
 have hi1 : i1 = (n.change.mz).length := by have := A9 hbi1; omega
 pQ (o4.holds (zm n i1, ()) /\ o4.ret (zm n i1, ()) = ((((n.change.p).length : Nat) : Int), zp n 0, 0, ())) (rdN (k := 132) (by rw [hi1, g0u]; rfl) (by omega) (c7y m5 p8 q32 i1) (by omega)) (pQ ((false : Bool) = false /\ (0 : Int) = 0) ⟨rfl, rfl⟩ (
 pQ ((bif false then true else decide (8 < (((n.change.p).length : Nat) : Int))) = false) (by show decide (8 < (((n.change.p).length : Nat) : Int)) = false; simp; omega) (And.intro (⟨(0 : Nat), rfl, by rw [hi1, D1]; rfl, rfl, C0 _⟩ : Ent (e7j n 1 0) [SV.i .i64 0] [HB.arr (.st 1) 116 (take i1 n.change.mz), HB.arr (.st 2) 118 []] [HB.box 225 [SV.sl .u8 (zp n 0), SV.b false], HB.box 46 (c7u n (.own 0) (.own 1) .nils)]) (
 fun (i2 : Nat) (hIi2 : i2 <= (n.change.p).length) =>
 bq (decide ((i2 : Int) < ((n.change.p).length : Nat))) (fun hbi2 =>
 have hi2 : i2 < (n.change.p).length := by have := A6 hbi2; omega
 pQ (((i2 : Int) == ((((n.change.p).take i2).length : Nat) : Int)) = true) (by rw [C4, J0 (O0 hi2)]; exact Q5 _) (
 bN (Nat.ble ((length ((n.change.p).take i2) + length ([⟨0, Dig.zero, 0⟩] : List j3)) * m6 Tp 118) i5) (e7v (by rw [C4]; omega)) (
 bN (iX (i2 : Int) ((((n.change.p).take i2 ++ ([⟨0, Dig.zero, 0⟩] : List j3)).length : Nat) : Int)) (ltC (by rw [B7, C4, E9]; omega)) (
 pQ (o4.holds (zp n i2, ()) /\ o4.ret (zp n i2, ()) = ((stA n.change.p i2).seq, (stA n.change.p i2).dig.l ++ (N (stA n.change.p i2).view ++ zp n (i2 + 1)), 0, ())) (rdN (k := 121) (f2q hi2) (c7w hc hs2 hi2).1 (c2h p8 q32 i2) (by omega)) (pQ ((false : Bool) = false /\ (0 : Int) = 0) ⟨rfl, rfl⟩ (pQ (a1n.holds ((stA n.change.p i2).dig.l ++ (N (stA n.change.p i2).view ++ zp n (i2 + 1)), 32, ()) /\ a1n.ret ((stA n.change.p i2).dig.l ++ (N (stA n.change.p i2).view ++ zp n (i2 + 1)), 32, ()) = ((stA n.change.p i2).dig.l, N (stA n.change.p i2).view ++ zp n (i2 + 1), 0, ())) (rdD (k := 123) (rfl) (e7m (o9 (c2h p8 q32 _))) (by omega)) (pQ ((false : Bool) = false /\ (0 : Int) = 0) ⟨rfl, rfl⟩ (bN (decide ((32 : Nat) <= (stA n.change.p i2).dig.l.length)) (by rw [(stA n.change.p i2).dig.h]; rfl) (pQ (o4.holds (N (stA n.change.p i2).view ++ zp n (i2 + 1), ()) /\ o4.ret (N (stA n.change.p i2).view ++ zp n (i2 + 1), ()) = ((stA n.change.p i2).view, zp n (i2 + 1), 0, ())) (rdN (k := 122) (rfl) (c7w hc hs2 hi2).2 (o9 (c2h p8 q32 _)) (by omega)) (pQ ((false : Bool) = false /\ (0 : Int) = 0) ⟨rfl, rfl⟩ ((⟨i2 + 1, by
   show [SV.i .i64 (wrap .i64 ((i2 : Int) + 1))] = [iv ((i2 + 1 : Nat) : Int)]; rw [o7 hi2 hl2], by
   show ([HB.arr (.st 1) 116 (n.change.mz), HB.arr (.st 2) 118 (snR n.change.p i2 (stA n.change.p i2))] : List (HB D)) = [HB.arr (.st 1) 116 (n.change.mz), HB.arr (.st 2) 118 ((n.change.p).take (i2 + 1))]; rw [e7n hi2], rfl, (show i2 + 1 <= (n.change.p).length from hi2), by show (n.change.p).length - (i2 + 1) < (n.change.p).length - i2; omega⟩ : Rnd (e7j n 1 0) i2 [SV.i .i64 (wrap .i64 ((i2 : Int) + 1))] [HB.arr (.st 1) 116 (n.change.mz), HB.arr (.st 2) 118 (snR n.change.p i2 (stA n.change.p i2))] [HB.box 225 [SV.sl .u8 (zp n (i2 + 1)), SV.b false], HB.box 46 (c7u n (.own 0) (.own 1) .nils)])))))))))))) (fun hbi2 =>
 have hi2 : i2 = (n.change.p).length := by have := A9 hbi2; omega
 pQ (o4.holds (zp n i2, ()) /\ o4.ret (zp n i2, ()) = ((((n.change.q).length : Nat) : Int), zq n 0, 0, ())) (rdN (k := 121) (by rw [hi2, g0v]; rfl) (by omega) (c2h p8 q32 i2) (by omega)) (pQ ((false : Bool) = false /\ (0 : Int) = 0) ⟨rfl, rfl⟩ (
 pQ ((bif false then true else decide (32 < (((n.change.q).length : Nat) : Int))) = false) (by show decide (32 < (((n.change.q).length : Nat) : Int)) = false; simp; omega) (And.intro (⟨(0 : Nat), rfl, by rw [hi2, D1]; rfl, rfl, C0 _⟩ : Ent (e7k n 1 0) [SV.i .i64 0] [HB.arr (.st 1) 116 n.change.mz, HB.arr (.st 2) 118 (take i2 n.change.p), HB.arr (.st 2) 118 []] [HB.box 225 [SV.sl .u8 (zq n 0), SV.b false], HB.box 46 (c7u n (.own 0) (.own 1) (.own 2))]) (
 fun (i3 : Nat) (hIi3 : i3 <= (n.change.q).length) =>
 bq (decide ((i3 : Int) < ((n.change.q).length : Nat))) (fun hbi3 =>
 have hi3 : i3 < (n.change.q).length := by have := A6 hbi3; omega
 pQ (((i3 : Int) == ((((n.change.q).take i3).length : Nat) : Int)) = true) (by rw [C4, J0 (O0 hi3)]; exact Q5 _) (
 bN (Nat.ble ((length ((n.change.q).take i3) + length ([⟨0, Dig.zero, 0⟩] : List j3)) * m6 Tp 118) i5) (e7v (by rw [C4]; omega)) (
 bN (iX (i3 : Int) ((((n.change.q).take i3 ++ ([⟨0, Dig.zero, 0⟩] : List j3)).length : Nat) : Int)) (ltC (by rw [B7, C4, E9]; omega)) (
 pQ (o4.holds (zq n i3, ()) /\ o4.ret (zq n i3, ()) = ((stA n.change.q i3).seq, (stA n.change.q i3).dig.l ++ (N (stA n.change.q i3).view ++ zq n (i3 + 1)), 0, ())) (rdN (k := 96) (f2r hi3) (c7w hc hs3 hi3).1 (c7x q32 i3) (by omega)) (pQ ((false : Bool) = false /\ (0 : Int) = 0) ⟨rfl, rfl⟩ (pQ (a1n.holds ((stA n.change.q i3).dig.l ++ (N (stA n.change.q i3).view ++ zq n (i3 + 1)), 32, ()) /\ a1n.ret ((stA n.change.q i3).dig.l ++ (N (stA n.change.q i3).view ++ zq n (i3 + 1)), 32, ()) = ((stA n.change.q i3).dig.l, N (stA n.change.q i3).view ++ zq n (i3 + 1), 0, ())) (rdD (k := 98) (rfl) (e7m (o9 (c7x q32 _))) (by omega)) (pQ ((false : Bool) = false /\ (0 : Int) = 0) ⟨rfl, rfl⟩ (bN (decide ((32 : Nat) <= (stA n.change.q i3).dig.l.length)) (by rw [(stA n.change.q i3).dig.h]; rfl) (pQ (o4.holds (N (stA n.change.q i3).view ++ zq n (i3 + 1), ()) /\ o4.ret (N (stA n.change.q i3).view ++ zq n (i3 + 1), ()) = ((stA n.change.q i3).view, zq n (i3 + 1), 0, ())) (rdN (k := 97) (rfl) (c7w hc hs3 hi3).2 (o9 (c7x q32 _)) (by omega)) (pQ ((false : Bool) = false /\ (0 : Int) = 0) ⟨rfl, rfl⟩ ((⟨i3 + 1, by
   show [SV.i .i64 (wrap .i64 ((i3 : Int) + 1))] = [iv ((i3 + 1 : Nat) : Int)]; rw [o7 hi3 hl3], by
   show ([HB.arr (.st 1) 116 (n.change.mz), HB.arr (.st 2) 118 (n.change.p), HB.arr (.st 2) 118 (snR n.change.q i3 (stA n.change.q i3))] : List (HB D)) = [HB.arr (.st 1) 116 (n.change.mz), HB.arr (.st 2) 118 (n.change.p), HB.arr (.st 2) 118 ((n.change.q).take (i3 + 1))]; rw [e7n hi3], rfl, (show i3 + 1 <= (n.change.q).length from hi3), by show (n.change.q).length - (i3 + 1) < (n.change.q).length - i3; omega⟩ : Rnd (e7k n 1 0) i3 [SV.i .i64 (wrap .i64 ((i3 : Int) + 1))] [HB.arr (.st 1) 116 (n.change.mz), HB.arr (.st 2) 118 (n.change.p), HB.arr (.st 2) 118 (snR n.change.q i3 (stA n.change.q i3))] [HB.box 225 [SV.sl .u8 (zq n (i3 + 1)), SV.b false], HB.box 46 (c7u n (.own 0) (.own 1) (.own 2))])))))))))))) (fun hbi3 =>
 have hi3 : i3 = (n.change.q).length := by have := A9 hbi3; omega
 brL fun hlz : (zq n i3).length <= i5 =>
 (by
  rw [hi3, g0w, D1]; rfl : some (({ c3p n with change := { n.change with q := take i3 n.change.q } } : i8), ((((zq n i3).length : Nat) : Int) == 0), ()) = some ((d7w n).ret (b7 n, ()))))))))))))))))))))))))))))))))
section
variable (n : i8)
def ez0 : List UInt8 := []
def ez1 : List UInt8 := n.dig.l ++ ez0
def ez2 : List UInt8 := N n.node ++ ez1 n
def ez3 : List UInt8 := N n.view ++ ez2 n
def ez4 : List UInt8 := N n.epoch ++ ez3 n
def ez5 : List UInt8 := N n.group ++ ez4 n
def ez6 : List UInt8 := N n.sq ++ ez5 n
def ez7 : List UInt8 := N 8 ++ ez6 n
end
def a9m {n : i8} : (ez1 n).length <= 40 * 1 := by unfold ez1 ez0; rw [D6]; exact a1x _
structure c8b (n : i8) : Prop where
  h : hdN n
  v : 1 <= n.view /\ n.view <= 1048576
  n : 1 <= n.node /\ n.node <= 28
def g7v (n : i8) (s : St D) : Option (HL D o4.rt) := match slV s 1 with
  | .ptr _ off => bif Nat.beq off 0 then some (8, ez6 n, 0, ()) else bif Nat.beq off 1 then some (n.sq, ez5 n, 0, ()) else bif Nat.beq off 2 then some (n.group, ez4 n, 0, ()) else bif Nat.beq off 3 then some (n.epoch, ez3 n, 0, ())
       else bif Nat.beq off 4 then some (n.view, ez2 n, 0, ()) else some (n.node, ez1 n, 0, ())
  | _ => none
def g1b (n : i8) (_ : St D) : Option (HL D a1n.rt) := some (n.dig.l, ez0, 0, ())
def d1t : Con D := { ts := [.st 7], rt := [.sl .u8], pre := some (fun a => a.1.kind = 8 /\ c8b a.1), ret := fun a => (ez7 a.1, ()) }
def d7x (n : i8) : Con D := { ts := [.sl .u8], rt := [.st 7, .bool], pre := some (fun a => a = (ez7 n, ()) /\ c8b n), ret := fun _ => (b8v n, true, ()) }
def a6d (n : i8) : HL D [.st 7] := (⟨8, n.sq, n.group, n.epoch, n.view, n.seq, n.dig, n.batch, n.answer, n.stamp, n.node, n.change, n.changes, n.picks, n.level, n.place, n.digests, n.data, n.nodes⟩, ())
def b2h {a : HL D [.st 7]} (h : a.1.kind = 8) : a = a6d a.1 := by
 obtain ⟨n, u⟩ := a
 cases n
 simp only at h
 subst h
 rfl
open Classical in
def no8 {n : i8} (hq : a6d n = (n, ())) (h : ¬ (hdN n /\ (1 <= n.view /\ n.view <= 1048576) /\ (1 <= n.node /\ n.node <= 28) /\ n.node ≠ n.sq)) : some (false, ()) = some (a8b.ret (a6d n)) := by
 rw [hq]
 show some (false, ()) = some (b3v n, ())
 have : b3v n = false := by unfold b3v; exact E5 h
 rw [this]
abbrev uH : Nat -> Nat -> Option (Hint D) := fun f r => match f, r with
 | 155, 2 => some (.unr 5)
 | _, _ => none
open Classical in
def f2t : a8b.ok Tp 114 := Con.proveHS (F := EF) (Z := ZL) (c := a8b) a6d (fun n => a6d n = (n, ())) (fun a h => ⟨a.1, b2h h, (b2h h).symm⟩) (H := fun _ => uH) (call := fun _ => a1a EF ZL Γmy noO uH 9) (fun _ => o0 ZL Kmy 9) fun (n : i8) (hq : a6d n = (n, ())) =>
 bq ((a0w.ret (n.group, (0 : Int), (2 : Int), ())).1) (fun h1 =>
 bq ((a0w.ret (n.epoch, (0 : Int), (1048576 : Int), ())).1) (fun h2 =>
 bq ((a0w.ret (n.sq, (1 : Int), (28 : Int), ())).1) (fun h3 =>
 bq (bif (a0w.ret (n.view, (0 : Int), (1048576 : Int), ())).1 then decide (0 < n.view) else false) (fun h4 =>
 (by
  rw [b3c] at h1 h2 h3 h4; rw [hq, b3c]; show some ((bif decide (1 <= n.node /\ n.node <= 28) then n.node != n.sq else false), ()) = some (b3v n, ())
  congr 2
  unfold b3v; have h : hdN n := ⟨A6 h1, A6 h2, A6 h3⟩; simp at h4; by_cases hn : 1 <= n.node /\ n.node <= 28
  ·by_cases he : n.node = n.sq
   ·simp [he]
   ·have : (1 <= n.view /\ n.view <= 1048576) := by omega
    simp [h, hn, he, this]
  ·rw [E5 hn]; symm; exact E5 fun g => hn g.2.2.1 : some ((bif (a0w.ret (n.node, (1 : Int), (28 : Int), ())).1 then n.node != n.sq else false), ()) = some (a8b.ret (a6d n)))) (fun h4 =>
 (no8 hq (fun g => by rw [b3c] at h4; have := g.2.1; simp at h4; omega) : some (false, ()) = some (a8b.ret (a6d n))))) (fun h3 =>
 (no8 hq (fun g => by rw [b3c] at h3; exact A9 h3 g.1.s) : some (false, ()) = some (a8b.ret (a6d n))))) (fun h2 =>
 (no8 hq (fun g => by rw [b3c] at h2; exact A9 h2 g.1.e) : some (false, ()) = some (a8b.ret (a6d n))))) (fun h1 =>
 (no8 hq (fun g => by rw [b3c] at h1; exact A9 h1 g.1.g) : some (false, ()) = some (a8b.ret (a6d n))))
def g1c : d1t.ok Tp 115 := Con.proveHS (F := EF) (Z := ZL) (c := d1t) a6d c8b (fun a h => ⟨a.1, b2h h.1, h.2⟩) (H := fun _ => uH) (call := fun _ => a1a EF ZL Γwr noO uH 9) (fun _ => o0 ZL Kwr 9) fun (n : i8) (hn : c8b n) =>
 bN (Nat.ble ((length (([] ++ N 8)) + length (N n.sq)) * m6 Tp 5) i5) (m7 1 (j7 (xs := []) (k := 0) (B9 _) (j5 _)) (j5 _) (by omega)) (
 bN (Nat.ble ((length ((([] ++ N 8) ++ N n.sq)) + length (N n.group)) * m6 Tp 5) i5) (m7 2 (j7 (j7 (xs := []) (k := 0) (B9 _) (j5 _)) (j5 _)) (j5 _) (by omega)) (
 bN (Nat.ble ((length (((([] ++ N 8) ++ N n.sq) ++ N n.group)) + length (N n.epoch)) * m6 Tp 5) i5) (m7 3 (j7 (j7 (j7 (xs := []) (k := 0) (B9 _) (j5 _)) (j5 _)) (j5 _)) (j5 _) (by omega)) (
 bN (Nat.ble ((length ((((([] ++ N 8) ++ N n.sq) ++ N n.group) ++ N n.epoch)) + length (N n.view)) * m6 Tp 5) i5) (m7 4 (j7 (j7 (j7 (j7 (xs := []) (k := 0) (B9 _) (j5 _)) (j5 _)) (j5 _)) (j5 _)) (j5 _) (by omega)) (
 bN (Nat.ble ((length (((((([] ++ N 8) ++ N n.sq) ++ N n.group) ++ N n.epoch) ++ N n.view)) + length (N n.node)) * m6 Tp 5) i5) (m7 5 (j7 (j7 (j7 (j7 (j7 (xs := []) (k := 0) (B9 _) (j5 _)) (j5 _)) (j5 _)) (j5 _)) (j5 _)) (j5 _) (by omega)) (
 bN (Nat.ble ((length ((((((([] ++ N 8) ++ N n.sq) ++ N n.group) ++ N n.epoch) ++ N n.view) ++ N n.node)) + 32) * m6 Tp 5) i5) (by have h := m7 (xs := (((((([] ++ N 8) ++ N n.sq) ++ N n.group) ++ N n.epoch) ++ N n.view) ++ N n.node)) (ys := n.dig.l) 6 (j7 (j7 (j7 (j7 (j7 (j7 (xs := []) (k := 0) (B9 _) (j5 _)) (j5 _)) (j5 _)) (j5 _)) (j5 _)) (j5 _)) (a1x n.dig) (by omega); rwa [n.dig.h] at h) (
 (by
  show some ((((((([] ++ N 8) ++ N n.sq) ++ N n.group) ++ N n.epoch) ++ N n.view) ++ N n.node) ++ n.dig.l, ()) = some (ez7 n, ()); simp [ez7, ez6, ez5, ez4, ez3, ez2, ez1, ez0, B6] : some ((((((([] ++ N 8) ++ N n.sq) ++ N n.group) ++ N n.epoch) ++ N n.view) ++ N n.node) ++ n.dig.l, ()) = some (d1t.ret (a6d n)))))))))
def g1d (n : i8) : (d7x n).ok Tp 116 := Con.proveHS (F := EF) (Z := ZL) (c := d7x n) (fun _ : Unit => (ez7 n, ())) (fun _ => c8b n) (fun a h => ⟨(), h.1, h.2⟩) (H := fun _ => uH) (call := fun _ => c7v (g7v n) (g1b n) uH 9) (fun _ => b7c 9) fun (_ : Unit) (hn : c8b n) =>
 have hd : hdN n := hn.h
 pQ (o4.holds (ez7 n, ()) /\ o4.ret (ez7 n, ()) = (8, ez6 n, 0, ())) (rdN (k := 7) rfl (by decide) (o9 (o9 (o9 (o9 (o9 (o9 a9m)))))) (by omega)) (pQ ((false : Bool) = false /\ (0 : Int) = 0) ⟨rfl, rfl⟩ (
 pQ (o4.holds (ez6 n, ()) /\ o4.ret (ez6 n, ()) = (n.sq, ez5 n, 0, ())) (rdN (k := 6) rfl (by have := hd.s; omega) (o9 (o9 (o9 (o9 (o9 a9m))))) (by omega)) (pQ ((false : Bool) = false /\ (0 : Int) = 0) ⟨rfl, rfl⟩ (
 pQ (o4.holds (ez5 n, ()) /\ o4.ret (ez5 n, ()) = (n.group, ez4 n, 0, ())) (rdN (k := 5) rfl (by have := hd.g; omega) (o9 (o9 (o9 (o9 a9m)))) (by omega)) (pQ ((false : Bool) = false /\ (0 : Int) = 0) ⟨rfl, rfl⟩ (
 pQ (o4.holds (ez4 n, ()) /\ o4.ret (ez4 n, ()) = (n.epoch, ez3 n, 0, ())) (rdN (k := 4) rfl (by have := hd.e; omega) (o9 (o9 (o9 a9m))) (by omega)) (pQ ((false : Bool) = false /\ (0 : Int) = 0) ⟨rfl, rfl⟩ (
 pQ (o4.holds (ez3 n, ()) /\ o4.ret (ez3 n, ()) = (n.view, ez2 n, 0, ())) (rdN (k := 3) rfl (by have := hn.v; omega) (o9 (o9 a9m)) (by omega)) (pQ ((false : Bool) = false /\ (0 : Int) = 0) ⟨rfl, rfl⟩ (
 pQ (o4.holds (ez2 n, ()) /\ o4.ret (ez2 n, ()) = (n.node, ez1 n, 0, ())) (rdN (k := 2) rfl (by have := hn.n; omega) (o9 a9m) (by omega)) (pQ ((false : Bool) = false /\ (0 : Int) = 0) ⟨rfl, rfl⟩ (
 pQ (a1n.holds (ez1 n, 32, ()) /\ a1n.ret (ez1 n, 32, ()) = (n.dig.l, ez0, 0, ())) (rdD (k := 1) rfl a9m (by omega)) (pQ ((false : Bool) = false /\ (0 : Int) = 0) ⟨rfl, rfl⟩ (
 bN (decide ((32 : Nat) <= n.dig.l.length)) (by rw [n.dig.h]; rfl) (
 (by
  show some (({ b8v n with dig := c3j n.dig.l } : i8), true, ()) = some (b8v n, true, ()); rw [b7b]; rfl : some (({ b8v n with dig := c3j n.dig.l } : i8), true, ()) = some ((d7x n).ret (ez7 n, ()))))))))))))))))))
def c5p (n : i8) : Bool := b0c n && dq n (c3p n)
def d1u (n : i8) : Bool := b3v n && dq n (b8v n)
def b2o (n : i8) : Bool := bif n.kind == 8 then d1u n else c5p n
def c5q : Con D := { ts := [.st 7], rt := [.int], pre := some (fun a => a.1.kind = 7), ret := fun a => (bif c5p a.1 then 0 else 2, ()) }
def c5r : Con D := { ts := [.st 7], rt := [.int], pre := some (fun a => a.1.kind = 8), ret := fun a => (bif d1u a.1 then 0 else 2, ()) }
def d4p : Con D := { ts := [.st 7], rt := [.int], pre := some (fun a => a.1.kind = 7 ∨ a.1.kind = 8), ret := fun a => (bif b2o a.1 then 0 else 2, ()) }
abbrev Γp7 (n : i8) : Nat -> Option (Con D) := j6 (j6 (j6 (j6 noC 114 a9l) 115 d1r) 116 (d7w n)) 117 c7i
abbrev Γp8 (n : i8) : Nat -> Option (Con D) := j6 (j6 (j6 (j6 noC 114 a8b) 115 d1t) 116 (d7x n)) 117 c7i
def Kp7 (n : i8) : o8 EF Tp (Γp7 n) noO := (((K0.c f2s).c g0z).c (g1a n)).c e5r
def Kp8 (n : i8) : o8 EF Tp (Γp8 n) noO := (((K0.c f2t).c g1c).c (g1d n)).c e5r
open Classical in
def c8c {n : i8} (h : b0c n = true) : okB n := by unfold b0c at h; have h := A6 h; exact ⟨h.1, h.2.1⟩
open Classical in
def c8d {n : i8} (h : b3v n = true) : c8b n := by unfold b3v at h; have h := A6 h; exact ⟨h.1, h.2.1, h.2.2.1⟩
def b8c {b : Bool} (h : (!b) = false) : b = true := by cases b <;> simp_all
def d1v {b : Bool} (h : (!b) = true) : b = false := by cases b <;> simp_all
def g1e : c5q.ok Tp 39 := Con.proveHS (F := EF) (Z := ZL) (c := c5q) shK (fun n => shK n = (n, ())) (fun a h => ⟨a.1, b7d h, (b7d h).symm⟩) (H := fun _ _ _ => none) (call := fun n => a1a EF ZL (Γp7 n) noO (fun _ _ => none) 9) (fun n => o0 ZL (Kp7 n) 9) fun (n : i8) (hq : shK n = (n, ())) =>
 pQ ((7 : Int) = 7) rfl (
 bq (!(a9l.ret (shK n)).1) (fun h1 => (by
  rw [hq] at h1 ⊢; show some ((2 : Int), ()) = some (bif b0c n && dq n (c3p n) then 0 else 2, ()); rw [show b0c n = false from d1v h1]; rfl : some ((2 : Int), ()) = some (c5q.ret (shK n)))) (fun h1 =>
 have hf : b0c n = true := by rw [hq] at h1; exact b8c h1
 pQ ((7 : Int) = 7 /\ okB (shK n).1) ⟨rfl, by rw [hq]; exact c8c hf⟩ (
 pQ (d1r.ret (shK n) = (b7 n, ()) /\ okB n) ⟨rfl, c8c hf⟩ (
 bq (!(dq (α := i8) (shK n).1 (c3p n))) (fun h2 => (by
  rw [hq] at h2 ⊢; show some ((2 : Int), ()) = some (bif b0c n && dq n (c3p n) then 0 else 2, ()); rw [show dq n (c3p n) = false from d1v h2, O5]; rfl : some ((2 : Int), ()) = some (c5q.ret (shK n)))) (fun h2 => (by
  rw [hq] at h2 ⊢; show some ((0 : Int), ()) = some (bif b0c n && dq n (c3p n) then 0 else 2, ()); rw [show dq n (c3p n) = true from b8c h2, hf]; rfl : some ((0 : Int), ()) = some (c5q.ret (shK n))))))))
def g1f : c5r.ok Tp 39 := Con.proveHS (F := EF) (Z := ZL) (c := c5r) a6d (fun n => a6d n = (n, ())) (fun a h => ⟨a.1, b2h h, (b2h h).symm⟩) (H := fun _ _ _ => none) (call := fun n => a1a EF ZL (Γp8 n) noO (fun _ _ => none) 9) (fun n => o0 ZL (Kp8 n) 9) fun (n : i8) (hq : a6d n = (n, ())) =>
 pQ ((8 : Int) = 8) rfl (
 bq (!(a8b.ret (a6d n)).1) (fun h1 => (by
  rw [hq] at h1 ⊢; show some ((2 : Int), ()) = some (bif b3v n && dq n (b8v n) then 0 else 2, ()); rw [show b3v n = false from d1v h1]; rfl : some ((2 : Int), ()) = some (c5r.ret (a6d n)))) (fun h1 =>
 have hf : b3v n = true := by rw [hq] at h1; exact b8c h1
 pQ ((8 : Int) = 8 /\ c8b (a6d n).1) ⟨rfl, by rw [hq]; exact c8d hf⟩ (
 pQ (d1t.ret (a6d n) = (ez7 n, ()) /\ c8b n) ⟨rfl, c8d hf⟩ (
 bq (!(dq (α := i8) (a6d n).1 (b8v n))) (fun h2 => (by
  rw [hq] at h2 ⊢; show some ((2 : Int), ()) = some (bif b3v n && dq n (b8v n) then 0 else 2, ()); rw [show dq n (b8v n) = false from d1v h2, O5]; rfl : some ((2 : Int), ()) = some (c5r.ret (a6d n)))) (fun h2 => (by
  rw [hq] at h2 ⊢; show some ((0 : Int), ()) = some (bif b3v n && dq n (b8v n) then 0 else 2, ()); rw [show dq n (b8v n) = true from b8c h2, hf]; rfl : some ((0 : Int), ()) = some (c5r.ret (a6d n))))))))
def g7w : d4p.ok Tp 39 := by
 intro a G w vs hw hp hv
 rcases hp with h | h
 ·have := g1e a G w vs hw h hv; have e : d4p.ret a = c5q.ret a := by
   show ((bif b2o a.1 then 0 else 2 : Int), ()) = (bif c5p a.1 then 0 else 2, ()); unfold b2o; rw [h]; rfl
  rw [e]; exact this
 ·have := g1f a G w vs hw h hv; have e : d4p.ret a = c5r.ret a := by
   show ((bif b2o a.1 then 0 else 2 : Int), ()) = (bif d1u a.1 then 0 else 2, ()); unfold b2o; rw [h]; rfl
  rw [e]; exact this
def g1g (a : HL D [.int, .int, .int]) : HL D [.bool] :=
 (bif decide (a.2.1 <= a.1) then decide (a.1 <= a.2.2.1) else false, ())
def z6 : Con D := { ts := [.int, .int, .int], rt := [.bool], ret := g1g }
def f2u : z6.ok Tp 228 := Con.prove (c := z6) EF ((Z0.side K0).skip) K0 (H := H0) (n := 4) fun (a : HL D z6.ts) (hp : z6.holds a) =>
 z6.lf a (rfl)
def g1h (a : HL D [.int, .int, .int]) : HL D [.bool] :=
 (bif decide (a.2.1 <= a.1) then decide (a.1 <= a.2.2.1) else false, ())
def z7 : Con D := { ts := [.int, .int, .int], rt := [.bool], ret := g1h }
def d7y : z7.ok Tp 133 := Con.prove (c := z7) EF ((Z0.side K0).skip) K0 (H := H0) (n := 4) fun (a : HL D z7.ts) (hp : z7.holds a) =>
 z7.lf a (rfl)
def g1i (a : HL D [.int]) : HL D [.bool] :=
 (bif decide (1 <= a.1) then decide (a.1 <= 28) else false, ())
def a4q : Con D := { ts := [.int], rt := [.bool], ret := g1i }
def d7z : a4q.ok Tp 132 := Con.prove (c := a4q) EF ((Z0.side K0).skip) K0 (H := H0) (n := 4) fun (a : HL D a4q.ts) (hp : a4q.holds a) =>
 a4q.lf a (rfl)
def g1j (a : HL D [.int]) : HL D [.bool] :=
 (bif decide (0 <= a.1) then decide (a.1 <= 1048576) else false, ())
def a5q : Con D := { ts := [.int], rt := [.bool], ret := g1j }
def f2v : a5q.ok Tp 183 := Con.prove (c := a5q) EF ((Z0.side K0).skip) K0 (H := H0) (n := 4) fun (a : HL D a5q.ts) (hp : a5q.holds a) =>
 a5q.lf a (rfl)
def g1k (a : HL D [.st 4]) : HL D [.st 4] :=
 bif a.1.kind == 5 then
 ({ client := 0, stamp := 0, group := a.1.group, epoch := a.1.epoch, kind := a.1.kind, block := 0, data := [], old := 0, nw := 0, next := a.1.next }, ())
 else bif a.1.kind == 2 then
 bif a.1.kind == 4 then
 ({ client := a.1.client, stamp := a.1.stamp, group := a.1.group, epoch := a.1.epoch, kind := a.1.kind, block := a.1.block, data := a.1.data, old := a.1.old, nw := a.1.nw, next := [] }, ())
 else ({ client := a.1.client, stamp := a.1.stamp, group := a.1.group, epoch := a.1.epoch, kind := a.1.kind, block := a.1.block, data := a.1.data, old := 0, nw := 0, next := [] }, ())
 else bif a.1.kind == 4 then
 ({ client := a.1.client, stamp := a.1.stamp, group := a.1.group, epoch := a.1.epoch, kind := a.1.kind, block := a.1.block, data := [], old := a.1.old, nw := a.1.nw, next := [] }, ())
 else ({ client := a.1.client, stamp := a.1.stamp, group := a.1.group, epoch := a.1.epoch, kind := a.1.kind, block := a.1.block, data := [], old := 0, nw := 0, next := [] }, ())
def a1v : Con D := { ts := [.st 4], rt := [.st 4], ret := g1k }
def f2w : a1v.ok Tp 229 := Con.prove (c := a1v) EF ((Z0.side K0).skip) K0 (H := H0) (n := 4) fun (a : HL D a1v.ts) (hp : a1v.holds a) =>
 br_ (fun h1 => a1v.lf a (ct h1 (rfl))) (fun h1 => br_ (fun h2 => br_ (fun h3 => a1v.lf a (cf h1 (ct h2 (ct h3 (rfl))))) (fun h3 => a1v.lf a (cf h1 (ct h2 (cf h3 (rfl)))))) (fun h2 => br_ (fun h3 => a1v.lf a (cf h1 (cf h2 (ct h3 (rfl))))) (fun h3 => a1v.lf a (cf h1 (cf h2 (cf h3 (rfl)))))))
abbrev iA (l : List Int) (i : Nat) : Int := l.getD i (Ty.dflt D .int)
abbrev a8r (l : List Int) (i : Nat) : Prop := (1 <= iA l i /\ iA l i <= 28) /\ (0 < i -> iA l (i - 1) < iA l i)
open Classical in
def nxB (l : List Int) : Bool := decide ((l.length = 1 ∨ l.length = 4 ∨ l.length = 7) /\ ∀ i, i < l.length -> a8r l i)
open Classical in
def riB (l : List Int) : Bool := decide ((1 <= l.length /\ l.length <= 7) /\ ∀ i, i < l.length -> a8r l i)
def b2p : Con D := { ts := [.sl .int], rt := [.bool], ret := fun a => (nxB a.1, ()) }
def b5k : Con D := { ts := [.sl .int], rt := [.bool], ret := fun a => (riB a.1, ()) }
def d1w (l : List Int) : LH D := ⟨Nat, [3], fun i => [iv (i : Int)], fun i => i <= l.length /\ ∀ k, k < i -> a8r l k, fun i => l.length - i, [], fun _ => [], [], fun _ => []⟩
def nxH (a : HL D b2p.ts) : Nat -> Nat -> Option (Hint D) := fun f r => match f, r with
 | 230, 4 => some (.inv (d1w a.1))
 | _, _ => none
def riH (a : HL D b5k.ts) : Nat -> Nat -> Option (Hint D) := fun f r => match f, r with
 | 186, 2 => some (.inv (d1w a.1))
 | _, _ => none
section
open Classical
def e7w {a : HL D b2p.ts} (h : ¬ ((a.1.length = 1 ∨ a.1.length = 4 ∨ a.1.length = 7) /\ ∀ i, i < a.1.length -> a8r a.1 i)) : some (false, ()) = some (b2p.ret a) := by
 show some (false, ()) = some (nxB a.1, ()); unfold nxB; rw [E5 h]
def g7x {a : HL D b2p.ts} (h : (a.1.length = 1 ∨ a.1.length = 4 ∨ a.1.length = 7) /\ ∀ i, i < a.1.length -> a8r a.1 i) : some (true, ()) = some (b2p.ret a) := by
 show some (true, ()) = some (nxB a.1, ()); unfold nxB; rw [F6 h]
def f5m {a : HL D b5k.ts} (h : ¬ ((1 <= a.1.length /\ a.1.length <= 7) /\ ∀ i, i < a.1.length -> a8r a.1 i)) : some (false, ()) = some (b5k.ret a) := by
 show some (false, ()) = some (riB a.1, ()); unfold riB; rw [E5 h]
def g7y {a : HL D b5k.ts} (h : ∀ i, i < a.1.length -> a8r a.1 i) : some ((bif decide (1 <= ((a.1.length : Nat) : Int)) then decide (((a.1.length : Nat) : Int) <= 7) else false), ()) = some (b5k.ret a) := by
 show some (_, ()) = some (riB a.1, ()); unfold riB
 rw [rgI]
 congr 2
 rw [V4]
 constructor
 ·intro g; exact ⟨by omega, h⟩
 ·intro g; have := g.1; omega
end
def g7z : b2p.ok Tp 230 := Con.proveH (c := b2p) EF ((Z0.side K0).skip) (H := nxH) (call := fun a => a1a EF ((Z0.side K0).skip) noC noO (nxH a) 4) (fun _ => o0 _ K0 4) fun (a : HL D b2p.ts) (_ : b2p.holds a) =>
 brL fun _ : a.1.length <= i5 =>
 bq (bif bif ((a.1.length : Nat) : Int) != 1 then ((a.1.length : Nat) : Int) != 4 else false then ((a.1.length : Nat) : Int) != 7 else false) (fun h2 => (e7w (fun r => by rcases r.1 with e | e | e <;> rw [e] at h2 <;> exact absurd h2 (by decide)) : some (false, ()) = some (b2p.ret a))) (fun h2 =>
 And.intro (⟨(0 : Nat), rfl, rfl, rfl, ⟨C0 _, fun k hk => absurd hk (Q7 k)⟩⟩ : Ent (d1w a.1) [SV.i .i64 0] [] []) (
 fun (i : Nat) (hI : i <= a.1.length /\ ∀ k, k < i -> a8r a.1 k) =>
 brL fun hl : a.1.length <= i5 =>
 bq (decide ((i : Int) < (a.1.length : Nat))) (fun h3 =>
 have hi : i < a.1.length := by have := A6 h3; omega
 have eP : 0 < i -> (wrap .i64 ((i : Int) - 1)) = ((i - 1 : Nat) : Int) := fun h => by unfold i5 at hl; rw [IntWalk.i64_in _ (by omega)]; omega
 bN (iX (i : Int) ((a.1.length : Nat) : Int)) (ltC hi) (
 bq (!bif decide (1 <= (iA a.1 i)) then decide ((iA a.1 i) <= (28 : Int)) else false) (fun h4 => (e7w (fun r => (fun r => rgT h4 (r i hi).1) r.2) : some (false, ()) = some (b2p.ret a))) (fun h4 =>
 bq (decide (0 < (i : Int))) (fun h5 =>
 have hp : 0 < i := by have := A6 h5; omega
 bN (iX (i : Int) ((a.1.length : Nat) : Int)) (ltC hi) (
 bN (iX (wrap .i64 ((i : Int) - 1)) ((a.1.length : Nat) : Int)) (by rw [eP hp]; exact ltC (by omega)) (
 bq (decide ((iA a.1 i) <= (iA a.1 (wrap .i64 ((i : Int) - 1)).toNat))) (fun h6 => (e7w (fun r => (fun r => by have h := A6 h6; rw [eP hp, G6] at h; have := (r i hi).2 hp; omega) r.2) : some (false, ()) = some (b2p.ret a))) (fun h6 =>
 (⟨i + 1, by
  show [SV.i .i64 (wrap .i64 ((i : Int) + 1))] = [iv ((i + 1 : Nat) : Int)]; rw [o7 hi hl], rfl, rfl, ⟨hi, fun k hk => by
   rcases F1.1 hk with hk | rfl
   ·exact hI.2 k hk
   ·exact ⟨rgF h4, fun hp => by have h := A9 h6; rw [eP hp, G6] at h; omega⟩⟩, by show a.1.length - (i + 1) < a.1.length - i; omega⟩ : Rnd (d1w a.1) i [SV.i .i64 (wrap .i64 ((i : Int) + 1))] [] []))))) (fun h5 =>
 (⟨i + 1, by
  show [SV.i .i64 (wrap .i64 ((i : Int) + 1))] = [iv ((i + 1 : Nat) : Int)]; rw [o7 hi hl], rfl, rfl, ⟨hi, fun k hk => by
   rcases F1.1 hk with hk | rfl
   ·exact hI.2 k hk
   ·exact ⟨rgF h4, fun hp => by have := A9 h5; omega⟩⟩, by show a.1.length - (i + 1) < a.1.length - i; omega⟩ : Rnd (d1w a.1) i [SV.i .i64 (wrap .i64 ((i : Int) + 1))] [] []))))) (fun h3 =>
 have hA : ∀ k, k < a.1.length -> a8r a.1 k := fun k hk => hI.2 k (by have := A9 h3; omega)
 (g7x ⟨by simp at h2; omega, hA⟩ : some (true, ()) = some (b2p.ret a)))))
def g8a : b5k.ok Tp 186 := Con.proveH (c := b5k) EF ((Z0.side K0).skip) (H := riH) (call := fun a => a1a EF ((Z0.side K0).skip) noC noO (riH a) 4) (fun _ => o0 _ K0 4) fun (a : HL D b5k.ts) (_ : b5k.holds a) =>
 And.intro (⟨(0 : Nat), rfl, rfl, rfl, ⟨C0 _, fun k hk => absurd hk (Q7 k)⟩⟩ : Ent (d1w a.1) [SV.i .i64 0] [] []) (
 fun (i : Nat) (hI : i <= a.1.length /\ ∀ k, k < i -> a8r a.1 k) =>
 brL fun hl : a.1.length <= i5 =>
 bq (decide ((i : Int) < (a.1.length : Nat))) (fun h3 =>
 have hi : i < a.1.length := by have := A6 h3; omega
 have eP : 0 < i -> (wrap .i64 ((i : Int) - 1)) = ((i - 1 : Nat) : Int) := fun h => by unfold i5 at hl; rw [IntWalk.i64_in _ (by omega)]; omega
 bN (iX (i : Int) ((a.1.length : Nat) : Int)) (ltC hi) (
 bq (!bif decide (1 <= (iA a.1 i)) then decide ((iA a.1 i) <= (28 : Int)) else false) (fun h4 => (f5m (fun r => (fun r => rgT h4 (r i hi).1) r.2) : some (false, ()) = some (b5k.ret a))) (fun h4 =>
 bq (decide (0 < (i : Int))) (fun h5 =>
 have hp : 0 < i := by have := A6 h5; omega
 bN (iX (i : Int) ((a.1.length : Nat) : Int)) (ltC hi) (
 bN (iX (wrap .i64 ((i : Int) - 1)) ((a.1.length : Nat) : Int)) (by rw [eP hp]; exact ltC (by omega)) (
 bq (decide ((iA a.1 i) <= (iA a.1 (wrap .i64 ((i : Int) - 1)).toNat))) (fun h6 => (f5m (fun r => (fun r => by have h := A6 h6; rw [eP hp, G6] at h; have := (r i hi).2 hp; omega) r.2) : some (false, ()) = some (b5k.ret a))) (fun h6 =>
 (⟨i + 1, by
  show [SV.i .i64 (wrap .i64 ((i : Int) + 1))] = [iv ((i + 1 : Nat) : Int)]; rw [o7 hi hl], rfl, rfl, ⟨hi, fun k hk => by
   rcases F1.1 hk with hk | rfl
   ·exact hI.2 k hk
   ·exact ⟨rgF h4, fun hp => by have h := A9 h6; rw [eP hp, G6] at h; omega⟩⟩, by show a.1.length - (i + 1) < a.1.length - i; omega⟩ : Rnd (d1w a.1) i [SV.i .i64 (wrap .i64 ((i : Int) + 1))] [] []))))) (fun h5 =>
 (⟨i + 1, by
  show [SV.i .i64 (wrap .i64 ((i : Int) + 1))] = [iv ((i + 1 : Nat) : Int)]; rw [o7 hi hl], rfl, rfl, ⟨hi, fun k hk => by
   rcases F1.1 hk with hk | rfl
   ·exact hI.2 k hk
   ·exact ⟨rgF h4, fun hp => by have := A9 h5; omega⟩⟩, by show a.1.length - (i + 1) < a.1.length - i; omega⟩ : Rnd (d1w a.1) i [SV.i .i64 (wrap .i64 ((i : Int) + 1))] [] []))))) (fun h3 =>
 have hA : ∀ k, k < a.1.length -> a8r a.1 k := fun k hk => hI.2 k (by have := A9 h3; omega)
 brL fun _ : a.1.length <= i5 =>
 (g7y hA : some (bif decide (1 <= ((a.1.length : Nat) : Int)) then decide (((a.1.length : Nat) : Int) <= 7) else false, ()) = some (b5k.ret a))))
abbrev Γwk : Nat -> Option (Con D) := j6 (j6 (j6 (j6 noC 228 z6) 229 a1v) 187 a5s) 230 b2p
def Kwk : o8 EF Tp Γwk noO := (((K0.c f2u).c f2w).c e5m).c g7z
def g1l (a : HL D [.st 4]) : HL D [.int] :=
 bif (z6.ret (a.1.epoch, (0 : Int), (1048576 : Int), ())).1 then
 bif a.1.kind != 5 then
 bif a.1.kind == 1 then
 bif !bif bif bif bif (a5s.ret (a.1, a1v.ret a)).1 then (z6.ret (a.1.client, (31 : Int), (34 : Int), ())).1 else false then (z6.ret (a.1.stamp, (1 : Int), (9007199254740991 : Int), ())).1 else false then (z6.ret (a.1.group, (1 : Int), (2 : Int), ())).1 else false then (z6.ret (a.1.block, (0 : Int), (7 : Int), ())).1 else false then
 ((2 : Int), ())
 else ((0 : Int), ())
 else bif a.1.kind == 2 then
 bif !bif bif bif bif bif (a5s.ret (a.1, a1v.ret a)).1 then (z6.ret (a.1.client, (31 : Int), (34 : Int), ())).1 else false then (z6.ret (a.1.stamp, (1 : Int), (9007199254740991 : Int), ())).1 else false then (z6.ret (a.1.group, (1 : Int), (2 : Int), ())).1 else false then (z6.ret (a.1.block, (0 : Int), (7 : Int), ())).1 else false then (↑(length a.1.data) : Int) == 16 else false then
 ((2 : Int), ())
 else ((0 : Int), ())
 else bif a.1.kind == 3 then
 bif !bif bif bif (a5s.ret (a.1, a1v.ret a)).1 then (z6.ret (a.1.client, (31 : Int), (34 : Int), ())).1 else false then (z6.ret (a.1.stamp, (1 : Int), (9007199254740991 : Int), ())).1 else false then bif bif a.1.group == 0 then a.1.epoch == 0 else false then (z6.ret (a.1.block, (1 : Int), (2 : Int), ())).1 else false else false then
 ((2 : Int), ())
 else ((0 : Int), ())
 else bif a.1.kind == 4 then
 bif !bif bif bif bif bif bif (a5s.ret (a.1, a1v.ret a)).1 then (z6.ret (a.1.client, (31 : Int), (34 : Int), ())).1 else false then (z6.ret (a.1.stamp, (1 : Int), (9007199254740991 : Int), ())).1 else false then bif bif a.1.group == 0 then a.1.epoch == 0 else false then (z6.ret (a.1.block, (1 : Int), (2 : Int), ())).1 else false else false then (z6.ret (a.1.old, (1 : Int), (28 : Int), ())).1 else false then (z6.ret (a.1.nw, (1 : Int), (28 : Int), ())).1 else false then a.1.old != a.1.nw else false then
 ((2 : Int), ())
 else ((0 : Int), ())
 else bif a.1.kind == 5 then
 bif !bif bif bif bif (a5s.ret (a.1, a1v.ret a)).1 then (z6.ret (a.1.client, (31 : Int), (34 : Int), ())).1 else false then (z6.ret (a.1.stamp, (1 : Int), (9007199254740991 : Int), ())).1 else false then (z6.ret (a.1.group, (1 : Int), (2 : Int), ())).1 else false then (b2p.ret (a.1.next, ())).1 else false then
 ((2 : Int), ())
 else ((0 : Int), ())
 else ((2 : Int), ())
 else bif a.1.kind == 1 then
 bif !bif bif (a5s.ret (a.1, a1v.ret a)).1 then (z6.ret (a.1.group, (1 : Int), (2 : Int), ())).1 else false then (z6.ret (a.1.block, (0 : Int), (7 : Int), ())).1 else false then
 ((2 : Int), ())
 else ((0 : Int), ())
 else bif a.1.kind == 2 then
 bif !bif bif bif (a5s.ret (a.1, a1v.ret a)).1 then (z6.ret (a.1.group, (1 : Int), (2 : Int), ())).1 else false then (z6.ret (a.1.block, (0 : Int), (7 : Int), ())).1 else false then (↑(length a.1.data) : Int) == 16 else false then
 ((2 : Int), ())
 else ((0 : Int), ())
 else bif a.1.kind == 3 then
 bif !bif (a5s.ret (a.1, a1v.ret a)).1 then bif bif a.1.group == 0 then a.1.epoch == 0 else false then (z6.ret (a.1.block, (1 : Int), (2 : Int), ())).1 else false else false then
 ((2 : Int), ())
 else ((0 : Int), ())
 else bif a.1.kind == 4 then
 bif !bif bif bif bif (a5s.ret (a.1, a1v.ret a)).1 then bif bif a.1.group == 0 then a.1.epoch == 0 else false then (z6.ret (a.1.block, (1 : Int), (2 : Int), ())).1 else false else false then (z6.ret (a.1.old, (1 : Int), (28 : Int), ())).1 else false then (z6.ret (a.1.nw, (1 : Int), (28 : Int), ())).1 else false then a.1.old != a.1.nw else false then
 ((2 : Int), ())
 else ((0 : Int), ())
 else bif a.1.kind == 5 then
 bif !bif bif (a5s.ret (a.1, a1v.ret a)).1 then (z6.ret (a.1.group, (1 : Int), (2 : Int), ())).1 else false then (b2p.ret (a.1.next, ())).1 else false then
 ((2 : Int), ())
 else ((0 : Int), ())
 else ((2 : Int), ())
 else bif a.1.kind != 5 then
 bif a.1.kind == 1 then
 ((2 : Int), ())
 else bif a.1.kind == 2 then
 ((2 : Int), ())
 else bif a.1.kind == 3 then
 ((2 : Int), ())
 else bif a.1.kind == 4 then
 ((2 : Int), ())
 else bif a.1.kind == 5 then
 ((2 : Int), ())
 else ((2 : Int), ())
 else bif a.1.kind == 1 then
 ((2 : Int), ())
 else bif a.1.kind == 2 then
 ((2 : Int), ())
 else bif a.1.kind == 3 then
 ((2 : Int), ())
 else bif a.1.kind == 4 then
 ((2 : Int), ())
 else bif a.1.kind == 5 then
 ((2 : Int), ())
 else ((2 : Int), ())
def t7 : Con D := { ts := [.st 4], rt := [.int], ret := g1l }
def f2x : t7.ok Tp 214 := Con.prove (c := t7) EF ((Z0.side Kwk).skip) Kwk (H := H0) (n := 4) fun (a : HL D t7.ts) (hp : t7.holds a) =>
 br_ (fun h1 => br_ (fun h2 => br_ (fun h3 => br_ (fun h4 => t7.lf a (ct h1 (ct h2 (ct h3 (ct h4 (rfl)))))) (fun h4 => t7.lf a (ct h1 (ct h2 (ct h3 (cf h4 (rfl))))))) (fun h3 => br_ (fun h4 => br_ (fun h5 => t7.lf a (ct h1 (ct h2 (cf h3 (ct h4 (ct h5 (rfl))))))) (fun h5 => t7.lf a (ct h1 (ct h2 (cf h3 (ct h4 (cf h5 (rfl)))))))) (fun h4 => br_ (fun h5 => br_ (fun h6 => t7.lf a (ct h1 (ct h2 (cf h3 (cf h4 (ct h5 (ct h6 (rfl)))))))) (fun h6 => t7.lf a (ct h1 (ct h2 (cf h3 (cf h4 (ct h5 (cf h6 (rfl))))))))) (fun h5 => br_ (fun h6 => br_ (fun h7 => t7.lf a (ct h1 (ct h2 (cf h3 (cf h4 (cf h5 (ct h6 (ct h7 (rfl))))))))) (fun h7 => t7.lf a (ct h1 (ct h2 (cf h3 (cf h4 (cf h5 (ct h6 (cf h7 (rfl)))))))))) (fun h6 => br_ (fun h7 => br_ (fun h8 => t7.lf a (ct h1 (ct h2 (cf h3 (cf h4 (cf h5 (cf h6 (ct h7 (ct h8 (rfl)))))))))) (fun h8 => t7.lf a (ct h1 (ct h2 (cf h3 (cf h4 (cf h5 (cf h6 (ct h7 (cf h8 (rfl))))))))))) (fun h7 => t7.lf a (ct h1 (ct h2 (cf h3 (cf h4 (cf h5 (cf h6 (cf h7 (rfl)))))))))))))) (fun h2 => br_ (fun h3 => br_ (fun h4 => t7.lf a (ct h1 (cf h2 (ct h3 (ct h4 (rfl)))))) (fun h4 => t7.lf a (ct h1 (cf h2 (ct h3 (cf h4 (rfl))))))) (fun h3 => br_ (fun h4 => br_ (fun h5 => t7.lf a (ct h1 (cf h2 (cf h3 (ct h4 (ct h5 (rfl))))))) (fun h5 => t7.lf a (ct h1 (cf h2 (cf h3 (ct h4 (cf h5 (rfl)))))))) (fun h4 => br_ (fun h5 => br_ (fun h6 => t7.lf a (ct h1 (cf h2 (cf h3 (cf h4 (ct h5 (ct h6 (rfl)))))))) (fun h6 => t7.lf a (ct h1 (cf h2 (cf h3 (cf h4 (ct h5 (cf h6 (rfl))))))))) (fun h5 => br_ (fun h6 => br_ (fun h7 => t7.lf a (ct h1 (cf h2 (cf h3 (cf h4 (cf h5 (ct h6 (ct h7 (rfl))))))))) (fun h7 => t7.lf a (ct h1 (cf h2 (cf h3 (cf h4 (cf h5 (ct h6 (cf h7 (rfl)))))))))) (fun h6 => br_ (fun h7 => br_ (fun h8 => t7.lf a (ct h1 (cf h2 (cf h3 (cf h4 (cf h5 (cf h6 (ct h7 (ct h8 (rfl)))))))))) (fun h8 => t7.lf a (ct h1 (cf h2 (cf h3 (cf h4 (cf h5 (cf h6 (ct h7 (cf h8 (rfl))))))))))) (fun h7 => t7.lf a (ct h1 (cf h2 (cf h3 (cf h4 (cf h5 (cf h6 (cf h7 (rfl))))))))))))))) (fun h1 => br_ (fun h2 => br_ (fun h3 => t7.lf a (cf h1 (ct h2 (ct h3 (rfl))))) (fun h3 => br_ (fun h4 => t7.lf a (cf h1 (ct h2 (cf h3 (ct h4 (rfl)))))) (fun h4 => br_ (fun h5 => t7.lf a (cf h1 (ct h2 (cf h3 (cf h4 (ct h5 (rfl))))))) (fun h5 => br_ (fun h6 => t7.lf a (cf h1 (ct h2 (cf h3 (cf h4 (cf h5 (ct h6 (rfl)))))))) (fun h6 => br_ (fun h7 => t7.lf a (cf h1 (ct h2 (cf h3 (cf h4 (cf h5 (cf h6 (ct h7 (rfl))))))))) (fun h7 => t7.lf a (cf h1 (ct h2 (cf h3 (cf h4 (cf h5 (cf h6 (cf h7 (rfl)))))))))))))) (fun h2 => br_ (fun h3 => t7.lf a (cf h1 (cf h2 (ct h3 (rfl))))) (fun h3 => br_ (fun h4 => t7.lf a (cf h1 (cf h2 (cf h3 (ct h4 (rfl)))))) (fun h4 => br_ (fun h5 => t7.lf a (cf h1 (cf h2 (cf h3 (cf h4 (ct h5 (rfl))))))) (fun h5 => br_ (fun h6 => t7.lf a (cf h1 (cf h2 (cf h3 (cf h4 (cf h5 (ct h6 (rfl)))))))) (fun h6 => br_ (fun h7 => t7.lf a (cf h1 (cf h2 (cf h3 (cf h4 (cf h5 (cf h6 (ct h7 (rfl))))))))) (fun h7 => t7.lf a (cf h1 (cf h2 (cf h3 (cf h4 (cf h5 (cf h6 (cf h7 (rfl)))))))))))))))
def a4r (p : Nat -> Bool) : Nat -> Bool
 | 0 => true
 | n + 1 => a4r p n && p n
def a3g {p : Nat -> Bool} {i : Nat} (h : a4r p i = true) (hp : true = p i) : a4r p (i + 1) = true := by
 show (a4r p i && p i) = true
 rw [h, <- hp]; rfl
def a2k {p : Nat -> Bool} {i : Nat} : ∀ {n : Nat}, i < n -> false = p i -> a4r p n = false
 | n + 1, h, hp => by
  show (a4r p n && p n) = false; rcases F1.1 h with h | rfl
  ·rw [a2k h hp]; rfl
  ·rw [<- hp, O5]
def a2h (l k : Nat) (p : Nat -> Bool) : LH D := ⟨Nat, [k], fun i => [iv (i : Int)], fun i => i <= l /\ a4r p i = true, fun i => l - i, [], fun _ => [], [], fun _ => []⟩
def j4 {i n : Nat} (h : decide ((i : Int) < (n : Int)) = true) : i < n := by have := A6 h; omega
def a3r {l k : Nat} {p : Nat -> Bool} {i : Nat} (hI : (a2h l k p).inv i) (h : decide ((i : Int) < (l : Int)) = false) : a4r p l = true := by
 obtain ⟨h1, h2⟩ : i <= l /\ a4r p i = true := hI
 have := A9 h
 obtain rfl : i = l := by omega
 exact h2
def a9v {i n : Nat} (h : decide ((i : Int) < (n : Int)) = true) (hl : Nat.ble n i5 = true) : [SV.i (E := D) .i64 (wrap .i64 ((i : Int) + 1))] = [iv ((i + 1 : Nat) : Int)] := by
 rw [o7 (j4 h) (C2 hl)]
def a2t {i n : Nat} (h : decide ((i : Int) < (n : Int)) = true) : n - (i + 1) < n - i := by have := j4 h; omega
def ltD {i n : Nat} (h : decide ((i : Int) < (n : Int)) = true) : (decide (0 <= (i : Int)) && decide ((i : Int) < (n : Int))) = true := ltC (j4 h)
def ltW {i n : Nat} (h0 : decide (0 < (i : Int)) = true) (h : decide ((i : Int) < (n : Int)) = true) (hl : Nat.ble n i5 = true) : (decide (0 <= wrap .i64 ((i : Int) - 1)) && decide (wrap .i64 ((i : Int) - 1) < (n : Int))) = true := by
 have h1 := j4 h
 have h2 := A6 h0
 have h3 := C2 hl
 unfold i5 at h3
 rw [IntWalk.i64_in _ (by omega)]
 simp; omega
def b1k {l k : Nat} {p : Nat -> Bool} : Ent (a2h l k p) [SV.i .i64 0] [] [] := ⟨(0 : Nat), rfl, rfl, rfl, ⟨C0 _, rfl⟩⟩
abbrev Γbm : Nat -> Option (Con D) := j6 (j6 (j6 (j6 noC 214 t7) 132 a4q) 133 z7) 88 a7c
def Kbm : o8 EF Tp Γbm noO := (((K0.c f2x).c d7z).c d7y).c d7j
def b5l (a : HL D [.sl (.st 4), .st 7]) (i : Nat) : Bool :=
 bif (t7.ret (getD a.1 (Int.toNat (↑i : Int)) (Ty.dflt D (.st 4)), ())).1 != 0 then
 false
 else bif (getD a.1 (Int.toNat (↑i : Int)) (Ty.dflt D (.st 4))).group != a.2.1.group then
 false
 else bif (getD a.1 (Int.toNat (↑i : Int)) (Ty.dflt D (.st 4))).epoch != a.2.1.epoch then
 false
 else true
def g1m (a : HL D [.sl (.st 4), .st 7]) : HL D [.bool] :=
 bif decide (4 < (↑(length a.1) : Int)) then
 (false, ())
 else bif a4r (b5l a) (length a.1) then
 (true, ())
 else (false, ())
def a2l : Con D := { ts := [.sl (.st 4), .st 7], rt := [.bool], ret := g1m }
def f5n (a : HL D [.sl (.st 4), .st 7]) : Nat -> Nat -> Option (Hint D) := fun f r => match f, r with
 | 184, 4 => some (.inv (a2h a.1.length 5 (b5l a)))
 | _, _ => none
def f2y : a2l.ok Tp 184 := Con.proveH (c := a2l) EF ((Z0.side Kbm).skip) (H := f5n) (call := fun a => a1a EF ((Z0.side Kbm).skip) Γbm noO (f5n a) 4) (fun _ => o0 _ Kbm 4) fun (a : HL D a2l.ts) (_ : a2l.holds a) =>
 br_ (fun h1 : (Nat.ble (length a.1) i5) = true =>
 bq (decide (4 < (↑(length a.1) : Int))) (fun h2 => a2l.lf a (ct h2 (rfl))) (fun h2 => And.intro (b1k : Ent (a2h (length a.1) 5 (b5l a)) [SV.i IntKind.i64 (0 : Int)] [] []) (fun (i : Nat) (hI3 : (a2h (length a.1) 5 (b5l a)).inv i) =>
 br_ (fun h3 : (Nat.ble (length a.1) i5) = true =>
 bq (decide ((↑i : Int) < (↑(length a.1) : Int))) (fun h4 => bN (iX (↑i : Int) (↑(length a.1) : Int)) (by first | exact ltD (by assumption) | exact ltW (by assumption) (by assumption) (by assumption)) (
 bq ((t7.ret (getD a.1 (Int.toNat (↑i : Int)) (Ty.dflt D (.st 4)), ())).1 != 0) (fun h5 => a2l.lf a (cf h2 (cf (a2k (j4 h4) (ct h5 (rfl))) rfl))) (fun h5 => bN (iX (↑i : Int) (↑(length a.1) : Int)) (by first | exact ltD (by assumption) | exact ltW (by assumption) (by assumption) (by assumption)) (
 bq ((getD a.1 (Int.toNat (↑i : Int)) (Ty.dflt D (.st 4))).group != a.2.1.group) (fun h6 => a2l.lf a (cf h2 (cf (a2k (j4 h4) (cf h5 (ct h6 (rfl)))) rfl))) (fun h6 => bN (iX (↑i : Int) (↑(length a.1) : Int)) (by first | exact ltD (by assumption) | exact ltW (by assumption) (by assumption) (by assumption)) (
 bq ((getD a.1 (Int.toNat (↑i : Int)) (Ty.dflt D (.st 4))).epoch != a.2.1.epoch) (fun h7 => a2l.lf a (cf h2 (cf (a2k (j4 h4) (cf h5 (cf h6 (ct h7 (rfl))))) rfl))) (fun h7 => (⟨i + 1, a9v h4 (by assumption), rfl, rfl, ⟨j4 h4, a3g hI3.2 (cf h5 (cf h6 (cf h7 (rfl))))⟩, a2t h4⟩ : Rnd (a2h (length a.1) 5 (b5l a)) i [SV.i IntKind.i64 (wrap IntKind.i64 ((↑i : Int) + 1))] [] [])))))))) (fun h4 => a2l.lf a (cf h2 (ct (a3r hI3 h4) (rfl))))) (fun _ => trivial)))) (fun _ => trivial)
def b5m (a : HL D [.st 5]) (i : Nat) : Bool :=
 bif !(a4q.ret (getD a.1.nodes (Int.toNat (↑i : Int)) (Ty.dflt D .int), ())).1 then
 false
 else true
def g1n (a : HL D [.st 5]) : HL D [.bool] :=
 bif bif bif bif !(z7.ret (a.1.err, (0 : Int), (999 : Int), ())).1 then true else decide (16 < (↑(length a.1.data) : Int)) then true else !(z7.ret (a.1.epoch, (0 : Int), (1048576 : Int), ())).1 then true else decide (7 < (↑(length a.1.nodes) : Int)) then
 (false, ())
 else bif a4r (b5m a) (length a.1.nodes) then
 (true, ())
 else (false, ())
def a9n : Con D := { ts := [.st 5], rt := [.bool], ret := g1n }
def f5o (a : HL D [.st 5]) : Nat -> Nat -> Option (Hint D) := fun f r => match f, r with
 | 182, 4 => some (.inv (a2h a.1.nodes.length 3 (b5m a)))
 | _, _ => none
def f2z : a9n.ok Tp 182 := Con.proveH (c := a9n) EF ((Z0.side Kbm).skip) (H := f5o) (call := fun a => a1a EF ((Z0.side Kbm).skip) Γbm noO (f5o a) 4) (fun _ => o0 _ Kbm 4) fun (a : HL D a9n.ts) (_ : a9n.holds a) =>
 bq (bif bif bif !(z7.ret (a.1.err, (0 : Int), (999 : Int), ())).1 then true else decide (16 < (↑(length a.1.data) : Int)) then true else !(z7.ret (a.1.epoch, (0 : Int), (1048576 : Int), ())).1 then true else decide (7 < (↑(length a.1.nodes) : Int))) (fun h1 => a9n.lf a (ct h1 (rfl))) (fun h1 => And.intro (b1k : Ent (a2h (length a.1.nodes) 3 (b5m a)) [SV.i IntKind.i64 (0 : Int)] [] []) (fun (i : Nat) (hI2 : (a2h (length a.1.nodes) 3 (b5m a)).inv i) =>
 br_ (fun h2 : (Nat.ble (length a.1.nodes) i5) = true =>
 bq (decide ((↑i : Int) < (↑(length a.1.nodes) : Int))) (fun h3 => bN (iX (↑i : Int) (↑(length a.1.nodes) : Int)) (by first | exact ltD (by assumption) | exact ltW (by assumption) (by assumption) (by assumption)) (
 bq (!(a4q.ret (getD a.1.nodes (Int.toNat (↑i : Int)) (Ty.dflt D .int), ())).1) (fun h4 => a9n.lf a (cf h1 (cf (a2k (j4 h3) (ct h4 (rfl))) rfl))) (fun h4 => (⟨i + 1, a9v h3 (by assumption), rfl, rfl, ⟨j4 h3, a3g hI2.2 (cf h4 (rfl))⟩, a2t h3⟩ : Rnd (a2h (length a.1.nodes) 3 (b5m a)) i [SV.i IntKind.i64 (wrap IntKind.i64 ((↑i : Int) + 1))] [] [])))) (fun h3 => a9n.lf a (cf h1 (ct (a3r hI2 h3) (rfl))))) (fun _ => trivial)))
abbrev Γnm : Nat -> Option (Con D) := j6 Γbm 184 a2l
def Knm : o8 EF Tp Γnm noO := Kbm.c f2y
def b2i (a : HL D [.st 7]) (i : Nat) : Bool :=
 bif !(a7c.ret (getD a.1.changes (Int.toNat (↑i : Int)) (Ty.dflt D (.st 3)), ())).1 then
 false
 else bif (getD a.1.changes (Int.toNat (↑i : Int)) (Ty.dflt D (.st 3))).view != a.1.view then
 false
 else bif decide (0 < (↑i : Int)) then
 bif decide ((getD a.1.changes (Int.toNat (↑i : Int)) (Ty.dflt D (.st 3))).node <= (getD a.1.changes (Int.toNat (wrap IntKind.i64 ((↑i : Int) - 1))) (Ty.dflt D (.st 3))).node) then
 false
 else true
 else true
def a7u (a : HL D [.st 7]) (i : Nat) : Bool :=
 bif !(z7.ret ((getD a.1.picks (Int.toNat (↑i : Int)) (Ty.dflt D (.st 6))).seq, (1 : Int), (9007199254740991 : Int), ())).1 then
 false
 else bif decide (0 < (↑i : Int)) then
 bif wrap IntKind.i64 ((getD a.1.picks (Int.toNat (↑i : Int)) (Ty.dflt D (.st 6))).seq - 1) != (getD a.1.picks (Int.toNat (wrap IntKind.i64 ((↑i : Int) - 1))) (Ty.dflt D (.st 6))).seq then
 false
 else bif !(a2l.ret ((getD a.1.picks (Int.toNat (↑i : Int)) (Ty.dflt D (.st 6))).batch, a)).1 then
 false
 else bif decide ((getD a.1.picks (Int.toNat (↑i : Int)) (Ty.dflt D (.st 6))).dig = Dig.zero) then
 bif decide (0 < (↑(length (getD a.1.picks (Int.toNat (↑i : Int)) (Ty.dflt D (.st 6))).batch) : Int)) then
 false
 else true
 else true
 else bif !(a2l.ret ((getD a.1.picks (Int.toNat (↑i : Int)) (Ty.dflt D (.st 6))).batch, a)).1 then
 false
 else bif decide ((getD a.1.picks (Int.toNat (↑i : Int)) (Ty.dflt D (.st 6))).dig = Dig.zero) then
 bif decide (0 < (↑(length (getD a.1.picks (Int.toNat (↑i : Int)) (Ty.dflt D (.st 6))).batch) : Int)) then
 false
 else true
 else true
def g1o (a : HL D [.st 7]) : HL D [.bool] :=
 bif bif bif !(z7.ret ((↑(length a.1.changes) : Int), (1 : Int), (7 : Int), ())).1 then true else decide (8 < (↑(length a.1.picks) : Int)) then true else decide (a.1.view < 1) then
 (false, ())
 else bif a4r (b2i a) (length a.1.changes) then
 bif a4r (a7u a) (length a.1.picks) then
 (true, ())
 else (false, ())
 else (false, ())
def a2u : Con D := { ts := [.st 7], rt := [.bool], ret := g1o }
def f5p (a : HL D [.st 7]) : Nat -> Nat -> Option (Hint D) := fun f r => match f, r with
 | 185, 4 => some (.inv (a2h a.1.changes.length 3 (b2i a)))
 | 185, 9 => some (.inv (a2h a.1.picks.length 4 (a7u a)))
 | _, _ => none
def f3a : a2u.ok Tp 185 := Con.proveH (c := a2u) EF ((Z0.side Knm).skip) (H := f5p) (call := fun a => a1a EF ((Z0.side Knm).skip) Γnm noO (f5p a) 4) (fun _ => o0 _ Knm 4) fun (a : HL D a2u.ts) (_ : a2u.holds a) =>
 br_ (fun h1 : (Nat.ble (length a.1.changes) i5) = true =>
 bq (bif bif !(z7.ret ((↑(length a.1.changes) : Int), (1 : Int), (7 : Int), ())).1 then true else decide (8 < (↑(length a.1.picks) : Int)) then true else decide (a.1.view < 1)) (fun h2 => a2u.lf a (ct h2 (rfl))) (fun h2 => And.intro (b1k : Ent (a2h (length a.1.changes) 3 (b2i a)) [SV.i IntKind.i64 (0 : Int)] [] []) (fun (i : Nat) (hI3 : (a2h (length a.1.changes) 3 (b2i a)).inv i) =>
 br_ (fun h3 : (Nat.ble (length a.1.changes) i5) = true =>
 bq (decide ((↑i : Int) < (↑(length a.1.changes) : Int))) (fun h4 => bN (iX (↑i : Int) (↑(length a.1.changes) : Int)) (by first | exact ltD (by assumption) | exact ltW (by assumption) (by assumption) (by assumption)) (
 bq (!(a7c.ret (getD a.1.changes (Int.toNat (↑i : Int)) (Ty.dflt D (.st 3)), ())).1) (fun h5 => a2u.lf a (cf h2 (cf (a2k (j4 h4) (ct h5 (rfl))) rfl))) (fun h5 => bN (iX (↑i : Int) (↑(length a.1.changes) : Int)) (by first | exact ltD (by assumption) | exact ltW (by assumption) (by assumption) (by assumption)) (
 bq ((getD a.1.changes (Int.toNat (↑i : Int)) (Ty.dflt D (.st 3))).view != a.1.view) (fun h6 => a2u.lf a (cf h2 (cf (a2k (j4 h4) (cf h5 (ct h6 (rfl)))) rfl))) (fun h6 => bq (decide (0 < (↑i : Int))) (fun h7 => bN (iX (↑i : Int) (↑(length a.1.changes) : Int)) (by first | exact ltD (by assumption) | exact ltW (by assumption) (by assumption) (by assumption)) (
 bN (iX (wrap IntKind.i64 ((↑i : Int) - 1)) (↑(length a.1.changes) : Int)) (by first | exact ltD (by assumption) | exact ltW (by assumption) (by assumption) (by assumption)) (
 bq (decide ((getD a.1.changes (Int.toNat (↑i : Int)) (Ty.dflt D (.st 3))).node <= (getD a.1.changes (Int.toNat (wrap IntKind.i64 ((↑i : Int) - 1))) (Ty.dflt D (.st 3))).node)) (fun h8 => a2u.lf a (cf h2 (cf (a2k (j4 h4) (cf h5 (cf h6 (ct h7 (ct h8 (rfl)))))) rfl))) (fun h8 => (⟨i + 1, a9v h4 (by assumption), rfl, rfl, ⟨j4 h4, a3g hI3.2 (cf h5 (cf h6 (ct h7 (cf h8 (rfl)))))⟩, a2t h4⟩ : Rnd (a2h (length a.1.changes) 3 (b2i a)) i [SV.i IntKind.i64 (wrap IntKind.i64 ((↑i : Int) + 1))] [] []))))) (fun h7 => (⟨i + 1, a9v h4 (by assumption), rfl, rfl, ⟨j4 h4, a3g hI3.2 (cf h5 (cf h6 (cf h7 (rfl))))⟩, a2t h4⟩ : Rnd (a2h (length a.1.changes) 3 (b2i a)) i [SV.i IntKind.i64 (wrap IntKind.i64 ((↑i : Int) + 1))] [] []))))))) (fun h4 => And.intro (b1k : Ent (a2h (length a.1.picks) 4 (a7u a)) [SV.i IntKind.i64 (0 : Int)] [] []) (fun (i : Nat) (hI5 : (a2h (length a.1.picks) 4 (a7u a)).inv i) =>
 br_ (fun h5 : (Nat.ble (length a.1.picks) i5) = true =>
 bq (decide ((↑i : Int) < (↑(length a.1.picks) : Int))) (fun h6 => bN (iX (↑i : Int) (↑(length a.1.picks) : Int)) (by first | exact ltD (by assumption) | exact ltW (by assumption) (by assumption) (by assumption)) (
 bq (!(z7.ret ((getD a.1.picks (Int.toNat (↑i : Int)) (Ty.dflt D (.st 6))).seq, (1 : Int), (9007199254740991 : Int), ())).1) (fun h7 => a2u.lf a (cf h2 (ct (a3r hI3 h4) (cf (a2k (j4 h6) (ct h7 (rfl))) rfl)))) (fun h7 => bq (decide (0 < (↑i : Int))) (fun h8 => bN (iX (wrap IntKind.i64 ((↑i : Int) - 1)) (↑(length a.1.picks) : Int)) (by first | exact ltD (by assumption) | exact ltW (by assumption) (by assumption) (by assumption)) (
 bq (wrap IntKind.i64 ((getD a.1.picks (Int.toNat (↑i : Int)) (Ty.dflt D (.st 6))).seq - 1) != (getD a.1.picks (Int.toNat (wrap IntKind.i64 ((↑i : Int) - 1))) (Ty.dflt D (.st 6))).seq) (fun h9 => a2u.lf a (cf h2 (ct (a3r hI3 h4) (cf (a2k (j4 h6) (cf h7 (ct h8 (ct h9 (rfl))))) rfl)))) (fun h9 => bq (!(a2l.ret ((getD a.1.picks (Int.toNat (↑i : Int)) (Ty.dflt D (.st 6))).batch, a)).1) (fun h10 => a2u.lf a (cf h2 (ct (a3r hI3 h4) (cf (a2k (j4 h6) (cf h7 (ct h8 (cf h9 (ct h10 (rfl)))))) rfl)))) (fun h10 => bq (decide ((getD a.1.picks (Int.toNat (↑i : Int)) (Ty.dflt D (.st 6))).dig = Dig.zero)) (fun h11 => br_ (fun h12 : (Nat.ble (length (getD a.1.picks (Int.toNat (↑i : Int)) (Ty.dflt D (.st 6))).batch) i5) = true =>
 bq (decide (0 < (↑(length (getD a.1.picks (Int.toNat (↑i : Int)) (Ty.dflt D (.st 6))).batch) : Int))) (fun h13 => a2u.lf a (cf h2 (ct (a3r hI3 h4) (cf (a2k (j4 h6) (cf h7 (ct h8 (cf h9 (cf h10 (ct h11 (ct h13 (rfl)))))))) rfl)))) (fun h13 => (⟨i + 1, a9v h6 (by assumption), rfl, rfl, ⟨j4 h6, a3g hI5.2 (cf h7 (ct h8 (cf h9 (cf h10 (ct h11 (cf h13 (rfl)))))))⟩, a2t h6⟩ : Rnd (a2h (length a.1.picks) 4 (a7u a)) i [SV.i IntKind.i64 (wrap IntKind.i64 ((↑i : Int) + 1))] [] []))) (fun _ => trivial)) (fun h11 => (⟨i + 1, a9v h6 (by assumption), rfl, rfl, ⟨j4 h6, a3g hI5.2 (cf h7 (ct h8 (cf h9 (cf h10 (cf h11 (rfl))))))⟩, a2t h6⟩ : Rnd (a2h (length a.1.picks) 4 (a7u a)) i [SV.i IntKind.i64 (wrap IntKind.i64 ((↑i : Int) + 1))] [] [])))))) (fun h8 => bq (!(a2l.ret ((getD a.1.picks (Int.toNat (↑i : Int)) (Ty.dflt D (.st 6))).batch, a)).1) (fun h9 => a2u.lf a (cf h2 (ct (a3r hI3 h4) (cf (a2k (j4 h6) (cf h7 (cf h8 (ct h9 (rfl))))) rfl)))) (fun h9 => bq (decide ((getD a.1.picks (Int.toNat (↑i : Int)) (Ty.dflt D (.st 6))).dig = Dig.zero)) (fun h10 => br_ (fun h11 : (Nat.ble (length (getD a.1.picks (Int.toNat (↑i : Int)) (Ty.dflt D (.st 6))).batch) i5) = true =>
 bq (decide (0 < (↑(length (getD a.1.picks (Int.toNat (↑i : Int)) (Ty.dflt D (.st 6))).batch) : Int))) (fun h12 => a2u.lf a (cf h2 (ct (a3r hI3 h4) (cf (a2k (j4 h6) (cf h7 (cf h8 (cf h9 (ct h10 (ct h12 (rfl))))))) rfl)))) (fun h12 => (⟨i + 1, a9v h6 (by assumption), rfl, rfl, ⟨j4 h6, a3g hI5.2 (cf h7 (cf h8 (cf h9 (ct h10 (cf h12 (rfl))))))⟩, a2t h6⟩ : Rnd (a2h (length a.1.picks) 4 (a7u a)) i [SV.i IntKind.i64 (wrap IntKind.i64 ((↑i : Int) + 1))] [] []))) (fun _ => trivial)) (fun h10 => (⟨i + 1, a9v h6 (by assumption), rfl, rfl, ⟨j4 h6, a3g hI5.2 (cf h7 (cf h8 (cf h9 (cf h10 (rfl)))))⟩, a2t h6⟩ : Rnd (a2h (length a.1.picks) 4 (a7u a)) i [SV.i IntKind.i64 (wrap IntKind.i64 ((↑i : Int) + 1))] [] []))))))) (fun h6 => a2u.lf a (cf h2 (ct (a3r hI3 h4) (ct (a3r hI5 h6) (rfl)))))) (fun _ => trivial)))) (fun _ => trivial)))) (fun _ => trivial)
def g1p (a : HL D [.st 7]) : HL D [.bool] :=
 bif (↑(length a.1.batch) : Int) != 1 then
 (false, ())
 else bif !(a2l.ret (a.1.batch, a)).1 then
 (false, ())
 else bif (getD a.1.batch (Int.toNat (0 : Int)) (Ty.dflt D (.st 4))).client != a.1.sq then
 (false, ())
 else bif !(z7.ret (a.1.sq, (31 : Int), (34 : Int), ())).1 then
 (false, ())
 else bif a.1.kind == 1 then
 (true, ())
 else ((getD a.1.batch (Int.toNat (0 : Int)) (Ty.dflt D (.st 4))).kind == 1, ())
def a4s : Con D := { ts := [.st 7], rt := [.bool], ret := g1p }
def f3b : a4s.ok Tp 181 := Con.prove (c := a4s) EF ((Z0.side Knm).skip) Knm (H := H0) (n := 4) fun (a : HL D a4s.ts) (hp : a4s.holds a) =>
 br_ (fun h1 : (Nat.ble (length a.1.batch) i5) = true =>
 br_ (fun h2 => a4s.lf a (ct h2 (rfl))) (fun h2 => br_ (fun h3 => a4s.lf a (cf h2 (ct h3 (rfl)))) (fun h3 => bN (iX (0 : Int) (↑(length a.1.batch) : Int)) (by have h := Q3.1 h2; simp; omega) (
 br_ (fun h4 => a4s.lf a (cf h2 (cf h3 (ct h4 (rfl))))) (fun h4 => br_ (fun h5 => a4s.lf a (cf h2 (cf h3 (cf h4 (ct h5 (rfl)))))) (fun h5 => br_ (fun h6 => a4s.lf a (cf h2 (cf h3 (cf h4 (cf h5 (ct h6 (rfl))))))) (fun h6 => bN (iX (0 : Int) (↑(length a.1.batch) : Int)) (by have h := Q3.1 h2; simp; omega) (
 a4s.lf a (cf h2 (cf h3 (cf h4 (cf h5 (cf h6 (rfl)))))))))))))) (fun _ => trivial)
def g1q (a : HL D [.st 7]) : HL D [.st 7] :=
 bif a.1.kind == 1 then
 ({ kind := a.1.kind, sq := a.1.sq, group := a.1.group, epoch := a.1.epoch, view := 0, seq := 0, dig := { l := replicate 32 (0 : UInt8), h := Dig.zero._proof_1 }, batch := a.1.batch, answer := { err := 0, data := [], epoch := 0, nodes := [] }, stamp := 0, node := 0, change := { node := 0, view := 0, low := 0, mz := [], p := [], q := [] }, changes := [], picks := [], level := 0, place := 0, digests := [], data := [], nodes := [] }, ())
 else bif a.1.kind == 14 then
 ({ kind := a.1.kind, sq := a.1.sq, group := a.1.group, epoch := a.1.epoch, view := 0, seq := 0, dig := { l := replicate 32 (0 : UInt8), h := Dig.zero._proof_1 }, batch := a.1.batch, answer := { err := 0, data := [], epoch := 0, nodes := [] }, stamp := 0, node := 0, change := { node := 0, view := 0, low := 0, mz := [], p := [], q := [] }, changes := [], picks := [], level := 0, place := 0, digests := [], data := [], nodes := [] }, ())
 else bif a.1.kind == 2 then
 ({ kind := a.1.kind, sq := a.1.sq, group := a.1.group, epoch := a.1.epoch, view := 0, seq := 0, dig := { l := replicate 32 (0 : UInt8), h := Dig.zero._proof_1 }, batch := [], answer := a.1.answer, stamp := a.1.stamp, node := a.1.node, change := { node := 0, view := 0, low := 0, mz := [], p := [], q := [] }, changes := [], picks := [], level := 0, place := 0, digests := [], data := [], nodes := [] }, ())
 else bif a.1.kind == 3 then
 ({ kind := a.1.kind, sq := a.1.sq, group := a.1.group, epoch := a.1.epoch, view := a.1.view, seq := a.1.seq, dig := { l := replicate 32 (0 : UInt8), h := Dig.zero._proof_1 }, batch := a.1.batch, answer := { err := 0, data := [], epoch := 0, nodes := [] }, stamp := 0, node := 0, change := { node := 0, view := 0, low := 0, mz := [], p := [], q := [] }, changes := [], picks := [], level := 0, place := 0, digests := [], data := [], nodes := [] }, ())
 else bif a.1.kind == 4 then
 ({ kind := a.1.kind, sq := a.1.sq, group := a.1.group, epoch := a.1.epoch, view := a.1.view, seq := a.1.seq, dig := a.1.dig, batch := [], answer := { err := 0, data := [], epoch := 0, nodes := [] }, stamp := 0, node := 0, change := { node := 0, view := 0, low := 0, mz := [], p := [], q := [] }, changes := [], picks := [], level := 0, place := 0, digests := [], data := [], nodes := [] }, ())
 else bif a.1.kind == 5 then
 ({ kind := a.1.kind, sq := a.1.sq, group := a.1.group, epoch := a.1.epoch, view := a.1.view, seq := a.1.seq, dig := a.1.dig, batch := [], answer := { err := 0, data := [], epoch := 0, nodes := [] }, stamp := 0, node := 0, change := { node := 0, view := 0, low := 0, mz := [], p := [], q := [] }, changes := [], picks := [], level := 0, place := 0, digests := [], data := [], nodes := [] }, ())
 else bif a.1.kind == 6 then
 ({ kind := a.1.kind, sq := a.1.sq, group := a.1.group, epoch := a.1.epoch, view := 0, seq := a.1.seq, dig := a.1.dig, batch := [], answer := { err := 0, data := [], epoch := 0, nodes := [] }, stamp := 0, node := 0, change := { node := 0, view := 0, low := 0, mz := [], p := [], q := [] }, changes := [], picks := [], level := 0, place := 0, digests := [], data := [], nodes := [] }, ())
 else bif a.1.kind == 13 then
 ({ kind := a.1.kind, sq := a.1.sq, group := a.1.group, epoch := a.1.epoch, view := 0, seq := a.1.seq, dig := a.1.dig, batch := [], answer := { err := 0, data := [], epoch := 0, nodes := [] }, stamp := 0, node := 0, change := { node := 0, view := 0, low := 0, mz := [], p := [], q := [] }, changes := [], picks := [], level := 0, place := 0, digests := [], data := [], nodes := [] }, ())
 else bif a.1.kind == 7 then
 ({ kind := a.1.kind, sq := a.1.sq, group := a.1.group, epoch := a.1.epoch, view := 0, seq := 0, dig := { l := replicate 32 (0 : UInt8), h := Dig.zero._proof_1 }, batch := [], answer := { err := 0, data := [], epoch := 0, nodes := [] }, stamp := 0, node := 0, change := a.1.change, changes := [], picks := [], level := 0, place := 0, digests := [], data := [], nodes := [] }, ())
 else bif a.1.kind == 8 then
 ({ kind := a.1.kind, sq := a.1.sq, group := a.1.group, epoch := a.1.epoch, view := a.1.view, seq := 0, dig := a.1.dig, batch := [], answer := { err := 0, data := [], epoch := 0, nodes := [] }, stamp := 0, node := a.1.node, change := { node := 0, view := 0, low := 0, mz := [], p := [], q := [] }, changes := [], picks := [], level := 0, place := 0, digests := [], data := [], nodes := [] }, ())
 else bif a.1.kind == 9 then
 ({ kind := a.1.kind, sq := a.1.sq, group := a.1.group, epoch := a.1.epoch, view := a.1.view, seq := 0, dig := { l := replicate 32 (0 : UInt8), h := Dig.zero._proof_1 }, batch := [], answer := { err := 0, data := [], epoch := 0, nodes := [] }, stamp := 0, node := 0, change := { node := 0, view := 0, low := 0, mz := [], p := [], q := [] }, changes := a.1.changes, picks := a.1.picks, level := 0, place := 0, digests := [], data := [], nodes := [] }, ())
 else bif a.1.kind == 10 then
 bif a.1.kind == 11 then
 ({ kind := a.1.kind, sq := a.1.sq, group := a.1.group, epoch := a.1.epoch, view := 0, seq := a.1.seq, dig := a.1.dig, batch := [], answer := { err := 0, data := [], epoch := 0, nodes := [] }, stamp := 0, node := 0, change := { node := 0, view := 0, low := 0, mz := [], p := [], q := [] }, changes := [], picks := [], level := a.1.level, place := a.1.place, digests := a.1.digests, data := a.1.data, nodes := [] }, ())
 else ({ kind := a.1.kind, sq := a.1.sq, group := a.1.group, epoch := a.1.epoch, view := 0, seq := a.1.seq, dig := a.1.dig, batch := [], answer := { err := 0, data := [], epoch := 0, nodes := [] }, stamp := 0, node := 0, change := { node := 0, view := 0, low := 0, mz := [], p := [], q := [] }, changes := [], picks := [], level := a.1.level, place := a.1.place, digests := [], data := [], nodes := [] }, ())
 else bif a.1.kind == 11 then
 bif a.1.kind == 11 then
 ({ kind := a.1.kind, sq := a.1.sq, group := a.1.group, epoch := a.1.epoch, view := 0, seq := a.1.seq, dig := a.1.dig, batch := [], answer := { err := 0, data := [], epoch := 0, nodes := [] }, stamp := 0, node := 0, change := { node := 0, view := 0, low := 0, mz := [], p := [], q := [] }, changes := [], picks := [], level := a.1.level, place := a.1.place, digests := a.1.digests, data := a.1.data, nodes := [] }, ())
 else ({ kind := a.1.kind, sq := a.1.sq, group := a.1.group, epoch := a.1.epoch, view := 0, seq := a.1.seq, dig := a.1.dig, batch := [], answer := { err := 0, data := [], epoch := 0, nodes := [] }, stamp := 0, node := 0, change := { node := 0, view := 0, low := 0, mz := [], p := [], q := [] }, changes := [], picks := [], level := a.1.level, place := a.1.place, digests := [], data := [], nodes := [] }, ())
 else bif a.1.kind == 12 then
 ({ kind := a.1.kind, sq := a.1.sq, group := a.1.group, epoch := a.1.epoch, view := 0, seq := 0, dig := { l := replicate 32 (0 : UInt8), h := Dig.zero._proof_1 }, batch := [], answer := { err := 0, data := [], epoch := 0, nodes := [] }, stamp := 0, node := 0, change := { node := 0, view := 0, low := 0, mz := [], p := [], q := [] }, changes := [], picks := [], level := 0, place := 0, digests := [], data := [], nodes := a.1.nodes }, ())
 else bif a.1.kind == 15 then
 ({ kind := a.1.kind, sq := a.1.sq, group := a.1.group, epoch := a.1.epoch, view := 0, seq := a.1.seq, dig := { l := replicate 32 (0 : UInt8), h := Dig.zero._proof_1 }, batch := a.1.batch, answer := { err := 0, data := [], epoch := 0, nodes := [] }, stamp := 0, node := 0, change := { node := 0, view := 0, low := 0, mz := [], p := [], q := [] }, changes := [], picks := [], level := 0, place := 0, digests := [], data := [], nodes := [] }, ())
 else bif a.1.kind == 16 then
 ({ kind := a.1.kind, sq := a.1.sq, group := a.1.group, epoch := a.1.epoch, view := 0, seq := 0, dig := { l := replicate 32 (0 : UInt8), h := Dig.zero._proof_1 }, batch := a.1.batch, answer := { err := 0, data := [], epoch := 0, nodes := [] }, stamp := 0, node := 0, change := { node := 0, view := 0, low := 0, mz := [], p := [], q := [] }, changes := [], picks := [], level := 0, place := 0, digests := [], data := [], nodes := [] }, ())
 else ({ kind := a.1.kind, sq := a.1.sq, group := a.1.group, epoch := a.1.epoch, view := 0, seq := 0, dig := { l := replicate 32 (0 : UInt8), h := Dig.zero._proof_1 }, batch := [], answer := { err := 0, data := [], epoch := 0, nodes := [] }, stamp := 0, node := 0, change := { node := 0, view := 0, low := 0, mz := [], p := [], q := [] }, changes := [], picks := [], level := 0, place := 0, digests := [], data := [], nodes := [] }, ())
def a0x : Con D := { ts := [.st 7], rt := [.st 7], ret := g1q }
def f3c : a0x.ok Tp 146 := Con.prove (c := a0x) EF ((Z0.side K0).skip) K0 (H := H0) (n := 4) fun (a : HL D a0x.ts) (hp : a0x.holds a) =>
 br_ (fun h1 => a0x.lf a (ct h1 (rfl))) (fun h1 => br_ (fun h2 => a0x.lf a (cf h1 (ct h2 (rfl)))) (fun h2 => br_ (fun h3 => a0x.lf a (cf h1 (cf h2 (ct h3 (rfl))))) (fun h3 => br_ (fun h4 => a0x.lf a (cf h1 (cf h2 (cf h3 (ct h4 (rfl)))))) (fun h4 => br_ (fun h5 => a0x.lf a (cf h1 (cf h2 (cf h3 (cf h4 (ct h5 (rfl))))))) (fun h5 => br_ (fun h6 => a0x.lf a (cf h1 (cf h2 (cf h3 (cf h4 (cf h5 (ct h6 (rfl)))))))) (fun h6 => br_ (fun h7 => a0x.lf a (cf h1 (cf h2 (cf h3 (cf h4 (cf h5 (cf h6 (ct h7 (rfl))))))))) (fun h7 => br_ (fun h8 => a0x.lf a (cf h1 (cf h2 (cf h3 (cf h4 (cf h5 (cf h6 (cf h7 (ct h8 (rfl)))))))))) (fun h8 => br_ (fun h9 => a0x.lf a (cf h1 (cf h2 (cf h3 (cf h4 (cf h5 (cf h6 (cf h7 (cf h8 (ct h9 (rfl))))))))))) (fun h9 => br_ (fun h10 => a0x.lf a (cf h1 (cf h2 (cf h3 (cf h4 (cf h5 (cf h6 (cf h7 (cf h8 (cf h9 (ct h10 (rfl)))))))))))) (fun h10 => br_ (fun h11 => a0x.lf a (cf h1 (cf h2 (cf h3 (cf h4 (cf h5 (cf h6 (cf h7 (cf h8 (cf h9 (cf h10 (ct h11 (rfl))))))))))))) (fun h11 => br_ (fun h12 => br_ (fun h13 => a0x.lf a (cf h1 (cf h2 (cf h3 (cf h4 (cf h5 (cf h6 (cf h7 (cf h8 (cf h9 (cf h10 (cf h11 (ct h12 (ct h13 (rfl))))))))))))))) (fun h13 => a0x.lf a (cf h1 (cf h2 (cf h3 (cf h4 (cf h5 (cf h6 (cf h7 (cf h8 (cf h9 (cf h10 (cf h11 (ct h12 (cf h13 (rfl)))))))))))))))) (fun h12 => br_ (fun h13 => br_ (fun h14 => a0x.lf a (cf h1 (cf h2 (cf h3 (cf h4 (cf h5 (cf h6 (cf h7 (cf h8 (cf h9 (cf h10 (cf h11 (cf h12 (ct h13 (ct h14 (rfl)))))))))))))))) (fun h14 => a0x.lf a (cf h1 (cf h2 (cf h3 (cf h4 (cf h5 (cf h6 (cf h7 (cf h8 (cf h9 (cf h10 (cf h11 (cf h12 (ct h13 (cf h14 (rfl))))))))))))))))) (fun h13 => br_ (fun h14 => a0x.lf a (cf h1 (cf h2 (cf h3 (cf h4 (cf h5 (cf h6 (cf h7 (cf h8 (cf h9 (cf h10 (cf h11 (cf h12 (cf h13 (ct h14 (rfl)))))))))))))))) (fun h14 => br_ (fun h15 => a0x.lf a (cf h1 (cf h2 (cf h3 (cf h4 (cf h5 (cf h6 (cf h7 (cf h8 (cf h9 (cf h10 (cf h11 (cf h12 (cf h13 (cf h14 (ct h15 (rfl))))))))))))))))) (fun h15 => br_ (fun h16 => a0x.lf a (cf h1 (cf h2 (cf h3 (cf h4 (cf h5 (cf h6 (cf h7 (cf h8 (cf h9 (cf h10 (cf h11 (cf h12 (cf h13 (cf h14 (cf h15 (ct h16 (rfl)))))))))))))))))) (fun h16 => a0x.lf a (cf h1 (cf h2 (cf h3 (cf h4 (cf h5 (cf h6 (cf h7 (cf h8 (cf h9 (cf h10 (cf h11 (cf h12 (cf h13 (cf h14 (cf h15 (cf h16 (rfl)))))))))))))))))))))))))))))))))
abbrev Γft : Nat -> Option (Con D) := j6 (j6 (j6 (j6 (j6 Γnm 185 a2u) 181 a4s) 182 a9n) 186 b5k) 183 a5q
def Kft : o8 EF Tp Γft noO := ((((Knm.c f3a).c f3b).c f2z).c g8a).c f2v
def g1r (a : HL D [.st 7]) : HL D [.bool] :=
 bif a.1.kind == 1 then
 a4s.ret (a.1, ())
 else bif a.1.kind == 14 then
 a4s.ret (a.1, ())
 else bif a.1.kind == 2 then
 (bif bif (z7.ret (a.1.node, (31 : Int), (34 : Int), ())).1 then (z7.ret (a.1.stamp, (0 : Int), (9007199254740991 : Int), ())).1 else false then (a9n.ret (a.1.answer, ())).1 else false, ())
 else bif a.1.kind == 3 then
 (bif bif (a5q.ret (a.1.view, ())).1 then (z7.ret (a.1.seq, (1 : Int), (9007199254740991 : Int), ())).1 else false then (a2l.ret (a.1.batch, a)).1 else false, ())
 else bif a.1.kind == 4 then
 (bif (a5q.ret (a.1.view, ())).1 then (z7.ret (a.1.seq, (1 : Int), (9007199254740991 : Int), ())).1 else false, ())
 else bif a.1.kind == 5 then
 (bif (a5q.ret (a.1.view, ())).1 then (z7.ret (a.1.seq, (1 : Int), (9007199254740991 : Int), ())).1 else false, ())
 else bif a.1.kind == 6 then
 ((z7.ret (a.1.seq, (1 : Int), (9007199254740991 : Int), ())).1, ())
 else bif a.1.kind == 13 then
 ((z7.ret (a.1.seq, (1 : Int), (9007199254740991 : Int), ())).1, ())
 else bif a.1.kind == 7 then
 (bif (a7c.ret (a.1.change, ())).1 then a.1.change.node == a.1.sq else false, ())
 else bif a.1.kind == 8 then
 (bif bif bif (a5q.ret (a.1.view, ())).1 then decide (0 < a.1.view) else false then (a4q.ret (a.1.node, ())).1 else false then a.1.node != a.1.sq else false, ())
 else bif a.1.kind == 9 then
 a2u.ret (a.1, ())
 else bif a.1.kind == 10 then
 (bif bif bif bif (z7.ret (a.1.seq, (1 : Int), (9007199254740991 : Int), ())).1 then (z7.ret (a.1.level, (0 : Int), (9 : Int), ())).1 else false then (z7.ret (a.1.place, (0 : Int), (999 : Int), ())).1 else false then decide ((↑(length a.1.digests) : Int) <= 8) else false then decide ((↑(length a.1.data) : Int) <= 1024) else false, ())
 else bif a.1.kind == 11 then
 (bif bif bif bif (z7.ret (a.1.seq, (1 : Int), (9007199254740991 : Int), ())).1 then (z7.ret (a.1.level, (0 : Int), (9 : Int), ())).1 else false then (z7.ret (a.1.place, (0 : Int), (999 : Int), ())).1 else false then decide ((↑(length a.1.digests) : Int) <= 8) else false then decide ((↑(length a.1.data) : Int) <= 1024) else false, ())
 else bif a.1.kind == 12 then
 ((b5k.ret (a.1.nodes, ())).1, ())
 else bif a.1.kind == 16 then
 a2l.ret (a.1.batch, a.1, ())
 else (bif (z7.ret (a.1.seq, (1 : Int), (9007199254740991 : Int), ())).1 then (a2l.ret (a.1.batch, a)).1 else false, ())
def a1e : Con D := { ts := [.st 7], rt := [.bool], ret := g1r }
def f3d : a1e.ok Tp 145 := Con.prove (c := a1e) EF ((Z0.side Kft).skip) Kft (H := H0) (n := 4) fun (a : HL D a1e.ts) (hp : a1e.holds a) =>
 br_ (fun h1 => a1e.lf a (ct h1 (rfl))) (fun h1 => br_ (fun h2 => a1e.lf a (cf h1 (ct h2 (rfl)))) (fun h2 => br_ (fun h3 => a1e.lf a (cf h1 (cf h2 (ct h3 (rfl))))) (fun h3 => br_ (fun h4 => a1e.lf a (cf h1 (cf h2 (cf h3 (ct h4 (rfl)))))) (fun h4 => br_ (fun h5 => a1e.lf a (cf h1 (cf h2 (cf h3 (cf h4 (ct h5 (rfl))))))) (fun h5 => br_ (fun h6 => a1e.lf a (cf h1 (cf h2 (cf h3 (cf h4 (cf h5 (ct h6 (rfl)))))))) (fun h6 => br_ (fun h7 => a1e.lf a (cf h1 (cf h2 (cf h3 (cf h4 (cf h5 (cf h6 (ct h7 (rfl))))))))) (fun h7 => br_ (fun h8 => a1e.lf a (cf h1 (cf h2 (cf h3 (cf h4 (cf h5 (cf h6 (cf h7 (ct h8 (rfl)))))))))) (fun h8 => br_ (fun h9 => a1e.lf a (cf h1 (cf h2 (cf h3 (cf h4 (cf h5 (cf h6 (cf h7 (cf h8 (ct h9 (rfl))))))))))) (fun h9 => br_ (fun h10 => a1e.lf a (cf h1 (cf h2 (cf h3 (cf h4 (cf h5 (cf h6 (cf h7 (cf h8 (cf h9 (ct h10 (rfl)))))))))))) (fun h10 => br_ (fun h11 => a1e.lf a (cf h1 (cf h2 (cf h3 (cf h4 (cf h5 (cf h6 (cf h7 (cf h8 (cf h9 (cf h10 (ct h11 (rfl))))))))))))) (fun h11 => br_ (fun h12 => a1e.lf a (cf h1 (cf h2 (cf h3 (cf h4 (cf h5 (cf h6 (cf h7 (cf h8 (cf h9 (cf h10 (cf h11 (ct h12 (rfl)))))))))))))) (fun h12 => br_ (fun h13 => a1e.lf a (cf h1 (cf h2 (cf h3 (cf h4 (cf h5 (cf h6 (cf h7 (cf h8 (cf h9 (cf h10 (cf h11 (cf h12 (ct h13 (rfl))))))))))))))) (fun h13 => br_ (fun h14 => a1e.lf a (cf h1 (cf h2 (cf h3 (cf h4 (cf h5 (cf h6 (cf h7 (cf h8 (cf h9 (cf h10 (cf h11 (cf h12 (cf h13 (ct h14 (rfl)))))))))))))))) (fun h14 => br_ (fun h15 => a1e.lf a (cf h1 (cf h2 (cf h3 (cf h4 (cf h5 (cf h6 (cf h7 (cf h8 (cf h9 (cf h10 (cf h11 (cf h12 (cf h13 (cf h14 (ct h15 (rfl))))))))))))))))) (fun h15 => a1e.lf a (cf h1 (cf h2 (cf h3 (cf h4 (cf h5 (cf h6 (cf h7 (cf h8 (cf h9 (cf h10 (cf h11 (cf h12 (cf h13 (cf h14 (cf h15 (rfl)))))))))))))))))))))))))))))))
abbrev Γrk : Nat -> Option (Con D) := j6 (j6 (j6 (j6 (j6 noC 145 a1e) 146 a0x) 70 c1s) 133 z7) 132 a4q
def Krk : o8 EF Tp Γrk noO := ((((K0.c f3d).c f3c).c e5t).c d7y).c d7z
def d4q (a : HL D [.st 7]) : HL D [.int] :=
 bif bif bif !(z7.ret (a.1.kind, (1 : Int), (16 : Int), ())).1 then true else !(z7.ret (a.1.group, (0 : Int), (2 : Int), ())).1 then true else !(z7.ret (a.1.epoch, (0 : Int), (1048576 : Int), ())).1 then
 ((2 : Int), ())
 else bif bif bif a.1.kind != 1 then a.1.kind != 14 else false then !(a4q.ret (a.1.sq, ())).1 else false then
 ((2 : Int), ())
 else bif !(a1e.ret a).1 then
 ((2 : Int), ())
 else bif !(c1s.ret ((a0x.ret a).1, a)).1 then
 ((2 : Int), ())
 else ((0 : Int), ())
def a1g : Con D := { ts := [.st 7], rt := [.int], ret := d4q }
def f3e : a1g.ok Tp 104 := Con.prove (c := a1g) EF ((Z0.side Krk).skip) Krk (H := H0) (n := 4) fun (a : HL D a1g.ts) (hp : a1g.holds a) =>
 br_ (fun h1 => a1g.lf a (ct h1 (rfl))) (fun h1 => br_ (fun h2 => a1g.lf a (cf h1 (ct h2 (rfl)))) (fun h2 => br_ (fun h3 => a1g.lf a (cf h1 (cf h2 (ct h3 (rfl))))) (fun h3 => br_ (fun h4 => a1g.lf a (cf h1 (cf h2 (cf h3 (ct h4 (rfl)))))) (fun h4 => a1g.lf a (cf h1 (cf h2 (cf h3 (cf h4 (rfl)))))))))
def c8e {lo x hi : Int} : (z7.ret (x, lo, hi, ())).1 = decide (lo <= x /\ x <= hi) := rgI
def f3f {x : Int} : (a5q.ret (x, ())).1 = decide (0 <= x /\ x <= 1048576) := rgI
def d8a {x : Int} : (a4q.ret (x, ())).1 = decide (1 <= x /\ x <= 28) := rgI
def f3g {α : Type} [DecidableEq α] (a b : α) : dq a b = dq b a := by
 unfold dq; exact V4.2 ⟨Eq.symm, Eq.symm⟩
def e7x {n : i8} {o : i8} {f : Bool} (hk : 1 <= n.kind /\ n.kind <= 16) (h1 : n.kind ≠ 1) (h14 : n.kind ≠ 14) (e1 : (a0x.ret (n, ())).1 = o) (e2 : (a1e.ret (n, ())).1 = f) :
  a1g.ret (n, ()) = (bif decide ((0 <= n.group /\ n.group <= 2) /\ (0 <= n.epoch /\ n.epoch <= 1048576) /\ (1 <= n.sq /\ n.sq <= 28)) && f && dq n o then 0 else 2, ()) := by
 show d4q (n, ()) = _
 unfold d4q
 rw [c8e, c8e, c8e, d8a, e1, e2, show (c1s.ret (o, n, ())).1 = dq o n from rfl, f3g o n]
 have k1 : (n.kind != 1) = true := by simpa using h1
 have k14 : (n.kind != 14) = true := by simpa using h14
 simp only [hk, k1, k14, O2, B5, S3, B8, Cj]
 by_cases g : 0 <= n.group /\ n.group <= 2 <;> by_cases e : 0 <= n.epoch /\ n.epoch <= 1048576 <;> by_cases s : 1 <= n.sq /\ n.sq <= 28 <;> cases f <;> cases dq n o <;> simp [g, e, s]
def b9p {n : i8} : hdN n ↔ (0 <= n.group /\ n.group <= 2) /\ (0 <= n.epoch /\ n.epoch <= 1048576) /\ (1 <= n.sq /\ n.sq <= 28) := ⟨fun h => ⟨h.g, h.e, h.s⟩, fun h => ⟨h.1, h.2.1, h.2.2⟩⟩
open Classical in
def rk7 {n : i8} (h : n.kind = 7) : a1g.ret (n, ()) = (bif b2o n then 0 else 2, ()) := by
 have hq : ((n, ()) : HL D [.st 7]) = shK n := b7d h
 rw [e7x (o := c3p n) (f := bif n8 n.change then n.change.node == n.sq else false) (by omega) (by omega) (by omega) (by rw [hq]; rfl) (by rw [hq]; rfl)]
 unfold b2o c5p b0c
 rw [h, show ((7 : Int) == 8) = false from rfl, B8]
 congr 3
 by_cases h1 : hdN n
 ·have h2 := b9p.1 h1; rw [F6 h2]; cases n8 n.change <;> by_cases h4 : n.change.node = n.sq <;> simp [h1, h4]
 ·have h2 := h1; rw [b9p] at h2; rw [E5 h2]; simp [h1]
open Classical in
def rk8 {n : i8} (h : n.kind = 8) : a1g.ret (n, ()) = (bif b2o n then 0 else 2, ()) := by
 have hq : ((n, ()) : HL D [.st 7]) = a6d n := b2h h
 rw [e7x (o := b8v n) (f := bif bif bif (a5q.ret (n.view, ())).1 then decide (0 < n.view) else false then (a4q.ret (n.node, ())).1 else false then n.node != n.sq else false) (by omega) (by omega) (by omega) (by rw [hq]; rfl) (by rw [hq]; rfl)]
 unfold b2o d1u b3v
 rw [h, show ((8 : Int) == 8) = true from rfl, B5, f3f, d8a]
 congr 3
 by_cases h1 : hdN n
 ·have := b9p.1 h1; simp only [this, Cj, O2, T4, h1, Z9]; by_cases h2 : 1 <= n.view /\ n.view <= 1048576
  ·have : (0 <= n.view /\ n.view <= 1048576) := by omega
   have : 0 < n.view := by omega
   by_cases h3 : 1 <= n.node /\ n.node <= 28 <;> by_cases h4 : n.node = n.sq <;> simp [*]
  ·by_cases h5 : 0 <= n.view /\ n.view <= 1048576
   ·have h6 : ¬ (0 < n.view) := by omega
    have h7 : ¬ (1 <= n.view) := by omega
    simp [h5, h6, h7]
   ·simp [*]
 ·have h2 := h1; rw [b9p] at h2; rw [E5 h2]; simp [h1]
def f3h {n : i8} (h : n.kind = 7 ∨ n.kind = 8) : a1g.ret (n, ()) = (bif b2o n then 0 else 2, ()) := h.elim rk7 rk8
abbrev Γkg : Nat -> Option (Con D) := j6 (j6 (j6 (j6 (j6 (j6 (j6 (j6 (j6 (j6 noC 40 a8n) 46 a7z) 59 a0j) 60 b2w) 95 b4v) 96 b4w) 83 b0a) 43 a4o) 39 d4p) 92 a7q
abbrev g1s : Nat -> Option (j8 D) := a0h (a0h noO 50 b3o) 21 c1o
def g1t : o8 EF Tp Γkg g1s := (((((((((((K0.c d3v).c c7f).c b0u).c d3w).c e5i).c e5j).c g7p).c b9k).c g7w).c e6b).o e5h).o f4o
def Zkg : ZF Tp D := (Z0.side g1t).skip
abbrev kIg (k : KD) (c : i4) : KD := (k.1, (bif n8 c then wrap .i64 (k.2.1.1 + 1) else k.2.1.1, ()), k.2.2.1, k.2.2.2.1, (bif n8 c then bkS (j0 c) (kSn k) else kSn k), (bif n8 c then bkM (j0 c) (kSn k) (kMo k) else kMo k), ())
abbrev dgW (c : i4) : a0f := bif n8 c then dgS c else d0v
abbrev dgG (k : KD) (c : i4) : (a0f × Bool × Unit) × KD := ((dgW c, n8 c, ()), kIg k c)
def c2j : j8 D := { ash := [.nm 0, .dat (.st 3)], es := KS, rsh := [.dat (.st 8), .dat .bool], pes := KS, post := fun a k => dgG k a.1 }
abbrev f3i : Nat -> Option (j8 D) := a0h (a0h g1s 42 c2j) 41 a6b
end
end Go.Proofs.YtpbcabanpppfoaaGreat
