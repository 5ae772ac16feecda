/- A part of the proof. No condition. -/
import Derived.Test.YtpbcabanpppfoaaGreatA12
set_option linter.all false
namespace Go.Proofs.YtpbcabanpppfoaaGreat
open Go Go.Gx Go.Vz
open Go.IntKind (wrap)
open List (flatMap getD length take replicate)
set_option maxRecDepth 100000
noncomputable section
def f8u {k : Nat} (h : k <= 100) : Nat.ble ((k + 1) * j0 Tp 116) d4 = true := by
 rw [d5g]; exact D3 (by unfold d4; omega)
def e6k {k : Nat} (h : k <= 100) : Nat.ble ((k + 1) * j0 Tp 118) d4 = true := by
 rw [c9j]; exact D3 (by unfold d4; omega)
open Classical in
def no7 {n : d7} (hq : shK n = (n, ())) (h : ¬ hdN n) : some (false, ()) = some (a8n.ret (shK n)) := by
 rw [hq]
 show some (false, ()) = some (a9e n, ())
 have : a9e n = false := by unfold a9e; exact E5 fun g => h g.1
 rw [this]
def b2d {lo x hi : Int} : (a0d.ret (x, lo, hi, ())).1 = decide (lo <= x /\ x <= hi) := by
 show (c0k (x, lo, hi, ())).1 = _
 unfold c0k
 by_cases h1 : lo <= x <;> by_cases h2 : x <= hi <;> simp [h1, h2]
def b6b {a : HL D [.st 7]} (h : a.1.kind = 7) : a = shK a.1 := by
 obtain ⟨n, u⟩ := a
 cases n
 simp only at h
 subst h
 rfl
open Classical in
def f1c : a8n.ok Tp 114 := Con.proveHS (F := EF) (Z := ZL) (c := a8n) shK (fun n => shK n = (n, ())) (fun a h => ⟨a.1, b6b h, (b6b h).symm⟩) (H := fun _ => (fun _ _ => none)) (call := fun _ => a0g EF ZL Γmy noO (fun _ _ => none) 9) (fun _ => m7 ZL Kmy 9) fun (n : d7) (hq : shK n = (n, ())) =>
 bq ((a0d.ret (n.group, (0 : Int), (2 : Int), ())).1) (fun h1 =>
 bq ((a0d.ret (n.epoch, (0 : Int), (1048576 : Int), ())).1) (fun h2 =>
 bq ((a0d.ret (n.sq, (1 : Int), (28 : Int), ())).1) (fun h3 =>
 (by
  rw [b2d] at h1 h2 h3; rw [hq]; show some ((bif j8 n.change then n.change.node == n.sq else false), ()) = some (a9e n, ())
  congr 2
  unfold a9e; have h : hdN n := ⟨A6 h1, A6 h2, A6 h3⟩; cases hc : j8 n.change with
  | true => by_cases he : n.change.node = n.sq <;> simp [h, he]
  | false => simp : some ((bif j8 n.change then n.change.node == n.sq else false), ()) = some (a8n.ret (shK n)))) (fun h3 =>
 (no7 hq (fun h => by rw [b2d] at h3; exact A9 h3 h.s) : some (false, ()) = some (a8n.ret (shK n))))) (fun h2 =>
 (no7 hq (fun h => by rw [b2d] at h2; exact A9 h2 h.e) : some (false, ()) = some (a8n.ret (shK n))))) (fun h1 =>
 (no7 hq (fun h => by rw [b2d] at h1; exact A9 h1 h.g) : some (false, ()) = some (a8n.ret (shK n))))
def f8v : d0l.ok Tp 115 := Con.proveHS (F := EF) (Z := ZL) (c := d0l) shK okB (fun a h => ⟨a.1, b6b h.1, h.2⟩) (H := fun n => wrH n) (call := fun n => a0g EF ZL Γwr noO (wrH n) 9) (fun n => m7 ZL Kwr 9) fun (n : d7) (hn : okB n) =>
 have hd : hdN n := hn.h
 have hc : j8 n.change = true := hn.c
 have hm : hdM n.change := (a1t hc).1
 have hs2 := (a1t hc).2.1
 have hs3 := (a1t hc).2.2
 have m5 : n.change.mz.length <= 5 := by have := hm.l; omega
 have p8 : n.change.p.length <= 8 := a8k hs2
 have q32 : n.change.q.length <= 32 := a8l hs3
 have hl1 : n.change.mz.length <= d4 := D5 m5 (by decide)
 have hl2 : n.change.p.length <= d4 := D5 p8 (by decide)
 have hl3 : n.change.q.length <= d4 := D5 q32 (by decide)
 bN (Nat.ble ((length (([] ++ N 7)) + length (N n.sq)) * j0 Tp 5) d4) (j3 1 e6d (i4 _) (by omega)) (
 bN (Nat.ble ((length ((([] ++ N 7) ++ N n.sq)) + length (N n.group)) * j0 Tp 5) d4) (j3 2 e6e (i4 _) (by omega)) (
 bN (Nat.ble ((length (((([] ++ N 7) ++ N n.sq) ++ N n.group)) + length (N n.epoch)) * j0 Tp 5) d4) (j3 3 e6f (i4 _) (by omega)) (
 bN (Nat.ble ((length ((((([] ++ N 7) ++ N n.sq) ++ N n.group) ++ N n.epoch)) + length (N n.change.node)) * j0 Tp 5) d4) (j3 4 e6g (i4 _) (by omega)) (
 bN (Nat.ble ((length (((((([] ++ N 7) ++ N n.sq) ++ N n.group) ++ N n.epoch) ++ N n.change.node)) + length (N n.change.view)) * j0 Tp 5) d4) (j3 5 e6h (i4 _) (by omega)) (
 bN (Nat.ble ((length ((((((([] ++ N 7) ++ N n.sq) ++ N n.group) ++ N n.epoch) ++ N n.change.node) ++ N n.change.view)) + length (N n.change.low)) * j0 Tp 5) d4) (j3 6 e6i (i4 _) (by omega)) (
 brL fun hlm : n.change.mz.length <= d4 =>
 bN (Nat.ble ((length (((((((([] ++ N 7) ++ N n.sq) ++ N n.group) ++ N n.epoch) ++ N n.change.node) ++ N n.change.view) ++ N n.change.low)) + length (N (((n.change.mz).length : Nat) : Int))) * j0 Tp 5) d4) (j3 7 e6j (i4 _) (by omega)) (
 And.intro (⟨(0 : Nat), rfl, by
   show ([HB.arr .u8 5 (((((((([] ++ N 7) ++ N n.sq) ++ N n.group) ++ N n.epoch) ++ N n.change.node) ++ N n.change.view) ++ N n.change.low) ++ N (((n.change.mz).length : Nat) : Int))] : List (HB D)) = [HB.arr .u8 5 (k8 n ++ [])]; rw [D6]; rfl, rfl, C0 _⟩ : Ent (a9d (k8 n) j4 n.change.mz 1) [SV.i .i64 0] [HB.arr .u8 5 (((((((([] ++ N 7) ++ N n.sq) ++ N n.group) ++ N n.epoch) ++ N n.change.node) ++ N n.change.view) ++ N n.change.low) ++ N (((n.change.mz).length : Nat) : Int))] [HB.box 184 [SV.own 0]]) (
 fun (i1 : Nat) (hIi1 : i1 <= (n.change.mz).length) =>
 bq (decide ((i1 : Int) < ((n.change.mz).length : Nat))) (fun hbi1 =>
 have hi1 : i1 < (n.change.mz).length := by have := A6 hbi1; omega
 brL fun hli1 : (n.change.mz).length <= d4 =>
 pQ (((i1 : Int) == (((n.change.mz).length : Nat) : Int)) = false) (L6.2 (by omega)) (bN (iX (i1 : Int) (((n.change.mz).length : Nat) : Int)) (ltC hi1) (bN (Nat.ble ((length ((k8 n ++ flatMap j4 (take i1 n.change.mz))) + length (N (getD n.change.mz (Int.toNat (i1 : Int)) (Ty.dflt D (Ty.st 1))).seq)) * j0 Tp 5) d4) (j3 18 (m9 (k := 2) a4q c6u m5) (i4 _) (by omega)) (
 bN (Nat.ble ((length (((k8 n ++ flatMap j4 (take i1 n.change.mz)) ++ N (getD n.change.mz (Int.toNat (i1 : Int)) (Ty.dflt D (Ty.st 1))).seq)) + length ((getD n.change.mz (Int.toNat (i1 : Int)) (Ty.dflt D (Ty.st 1))).dig.l)) * j0 Tp 5) d4) (j3 19 (i7 (m9 (k := 2) a4q c6u m5) (i4 _)) (a1f _) (by omega)) (
 (⟨i1 + 1, by
   show [SV.i .i64 (wrap .i64 ((i1 : Int) + 1))] = [iv ((i1 + 1 : Nat) : Int)]; rw [n4 hi1 hli1], by
   show ([HB.arr .u8 5 (((k8 n ++ flatMap j4 (take i1 n.change.mz)) ++ N (getD n.change.mz (Int.toNat (i1 : Int)) (Ty.dflt D (Ty.st 1))).seq) ++ (getD n.change.mz (Int.toNat (i1 : Int)) (Ty.dflt D (Ty.st 1))).dig.l)] : List (HB D)) = [HB.arr .u8 5 (k8 n ++ flatMap j4 (take (i1 + 1) n.change.mz))]; rw [<- a5d (d := Ty.dflt D (Ty.st 1)) hi1]; show ([HB.arr .u8 5 (((k8 n ++ flatMap j4 (take i1 n.change.mz)) ++ N (getD n.change.mz (Int.toNat (i1 : Int)) (Ty.dflt D (Ty.st 1))).seq) ++ (getD n.change.mz (Int.toNat (i1 : Int)) (Ty.dflt D (Ty.st 1))).dig.l)] : List (HB D)) = [HB.arr .u8 5 ((k8 n ++ flatMap j4 (take i1 n.change.mz)) ++ j4 (getD n.change.mz (Int.toNat (i1 : Int)) (Ty.dflt D (Ty.st 1))))]; unfold j4; simp only [B6], rfl, (show i1 + 1 <= (n.change.mz).length from hi1), by show (n.change.mz).length - (i1 + 1) < (n.change.mz).length - i1; omega⟩ : Rnd (a9d (k8 n) j4 n.change.mz 1) i1 [SV.i .i64 (wrap .i64 ((i1 : Int) + 1))] [HB.arr .u8 5 (((k8 n ++ flatMap j4 (take i1 n.change.mz)) ++ N (getD n.change.mz (Int.toNat (i1 : Int)) (Ty.dflt D (Ty.st 1))).seq) ++ (getD n.change.mz (Int.toNat (i1 : Int)) (Ty.dflt D (Ty.st 1))).dig.l)] [HB.box 184 [SV.own 0]])))))) (fun hbi1 =>
 have hi1 : i1 = (n.change.mz).length := by have := A9 hbi1; omega
 brL fun hlp : n.change.p.length <= d4 =>
 have e5 : ((k8 n ++ flatMap j4 (take i1 n.change.mz)) ++ N (((n.change.p).length : Nat) : Int)) = k9 n := by unfold k9; rw [hi1, D1]
 bN (Nat.ble ((length ((k8 n ++ flatMap j4 (take i1 n.change.mz))) + length (N (((n.change.p).length : Nat) : Int))) * j0 Tp 5) d4) (j3 18 (m9 (k := 2) a4q c6u m5) (i4 _) (by omega)) (
 And.intro (⟨(0 : Nat), rfl, by
   show ([HB.arr .u8 5 ((k8 n ++ flatMap j4 (take i1 n.change.mz)) ++ N (((n.change.p).length : Nat) : Int))] : List (HB D)) = [HB.arr .u8 5 (k9 n ++ [])]; rw [D6]; rw [e5], rfl, C0 _⟩ : Ent (a9d (k9 n) d5 n.change.p 1) [SV.i .i64 0] [HB.arr .u8 5 ((k8 n ++ flatMap j4 (take i1 n.change.mz)) ++ N (((n.change.p).length : Nat) : Int))] [HB.box 184 [SV.own 0]]) (
 fun (i2 : Nat) (hIi2 : i2 <= (n.change.p).length) =>
 bq (decide ((i2 : Int) < ((n.change.p).length : Nat))) (fun hbi2 =>
 have hi2 : i2 < (n.change.p).length := by have := A6 hbi2; omega
 brL fun hli2 : (n.change.p).length <= d4 =>
 pQ (((i2 : Int) == (((n.change.p).length : Nat) : Int)) = false) (L6.2 (by omega)) (bN (iX (i2 : Int) (((n.change.p).length : Nat) : Int)) (ltC hi2) (bN (Nat.ble ((length ((k9 n ++ flatMap d5 (take i2 n.change.p))) + length (N (getD n.change.p (Int.toNat (i2 : Int)) (Ty.dflt D (Ty.st 2))).seq)) * j0 Tp 5) d4) (j3 43 (m9 (k := 3) z7 (c1d m5) p8) (i4 _) (by omega)) (
 bN (Nat.ble ((length (((k9 n ++ flatMap d5 (take i2 n.change.p)) ++ N (getD n.change.p (Int.toNat (i2 : Int)) (Ty.dflt D (Ty.st 2))).seq)) + length ((getD n.change.p (Int.toNat (i2 : Int)) (Ty.dflt D (Ty.st 2))).dig.l)) * j0 Tp 5) d4) (j3 44 (i7 (m9 (k := 3) z7 (c1d m5) p8) (i4 _)) (a1f _) (by omega)) (
 bN (Nat.ble ((length ((((k9 n ++ flatMap d5 (take i2 n.change.p)) ++ N (getD n.change.p (Int.toNat (i2 : Int)) (Ty.dflt D (Ty.st 2))).seq) ++ (getD n.change.p (Int.toNat (i2 : Int)) (Ty.dflt D (Ty.st 2))).dig.l)) + length (N (getD n.change.p (Int.toNat (i2 : Int)) (Ty.dflt D (Ty.st 2))).view)) * j0 Tp 5) d4) (j3 45 (i7 (i7 (m9 (k := 3) z7 (c1d m5) p8) (i4 _)) (a1f _)) (i4 _) (by omega)) (
 (⟨i2 + 1, by
   show [SV.i .i64 (wrap .i64 ((i2 : Int) + 1))] = [iv ((i2 + 1 : Nat) : Int)]; rw [n4 hi2 hli2], by
   show ([HB.arr .u8 5 ((((k9 n ++ flatMap d5 (take i2 n.change.p)) ++ N (getD n.change.p (Int.toNat (i2 : Int)) (Ty.dflt D (Ty.st 2))).seq) ++ (getD n.change.p (Int.toNat (i2 : Int)) (Ty.dflt D (Ty.st 2))).dig.l) ++ N (getD n.change.p (Int.toNat (i2 : Int)) (Ty.dflt D (Ty.st 2))).view)] : List (HB D)) = [HB.arr .u8 5 (k9 n ++ flatMap d5 (take (i2 + 1) n.change.p))]; rw [<- a5d (d := Ty.dflt D (Ty.st 2)) hi2]; show ([HB.arr .u8 5 ((((k9 n ++ flatMap d5 (take i2 n.change.p)) ++ N (getD n.change.p (Int.toNat (i2 : Int)) (Ty.dflt D (Ty.st 2))).seq) ++ (getD n.change.p (Int.toNat (i2 : Int)) (Ty.dflt D (Ty.st 2))).dig.l) ++ N (getD n.change.p (Int.toNat (i2 : Int)) (Ty.dflt D (Ty.st 2))).view)] : List (HB D)) = [HB.arr .u8 5 ((k9 n ++ flatMap d5 (take i2 n.change.p)) ++ d5 (getD n.change.p (Int.toNat (i2 : Int)) (Ty.dflt D (Ty.st 2))))]; unfold d5; simp only [B6], rfl, (show i2 + 1 <= (n.change.p).length from hi2), by show (n.change.p).length - (i2 + 1) < (n.change.p).length - i2; omega⟩ : Rnd (a9d (k9 n) d5 n.change.p 1) i2 [SV.i .i64 (wrap .i64 ((i2 : Int) + 1))] [HB.arr .u8 5 ((((k9 n ++ flatMap d5 (take i2 n.change.p)) ++ N (getD n.change.p (Int.toNat (i2 : Int)) (Ty.dflt D (Ty.st 2))).seq) ++ (getD n.change.p (Int.toNat (i2 : Int)) (Ty.dflt D (Ty.st 2))).dig.l) ++ N (getD n.change.p (Int.toNat (i2 : Int)) (Ty.dflt D (Ty.st 2))).view)] [HB.box 184 [SV.own 0]]))))))) (fun hbi2 =>
 have hi2 : i2 = (n.change.p).length := by have := A9 hbi2; omega
 brL fun hlq : n.change.q.length <= d4 =>
 have e6 : ((k9 n ++ flatMap d5 (take i2 n.change.p)) ++ N (((n.change.q).length : Nat) : Int)) = k10 n := by unfold k10; rw [hi2, D1]
 bN (Nat.ble ((length ((k9 n ++ flatMap d5 (take i2 n.change.p))) + length (N (((n.change.q).length : Nat) : Int))) * j0 Tp 5) d4) (j3 43 (m9 (k := 3) z7 (c1d m5) p8) (i4 _) (by omega)) (
 And.intro (⟨(0 : Nat), rfl, by
   show ([HB.arr .u8 5 ((k9 n ++ flatMap d5 (take i2 n.change.p)) ++ N (((n.change.q).length : Nat) : Int))] : List (HB D)) = [HB.arr .u8 5 (k10 n ++ [])]; rw [D6]; rw [e6], rfl, C0 _⟩ : Ent (a9d (k10 n) d5 n.change.q 1) [SV.i .i64 0] [HB.arr .u8 5 ((k9 n ++ flatMap d5 (take i2 n.change.p)) ++ N (((n.change.q).length : Nat) : Int))] [HB.box 184 [SV.own 0]]) (
 fun (i3 : Nat) (hIi3 : i3 <= (n.change.q).length) =>
 bq (decide ((i3 : Int) < ((n.change.q).length : Nat))) (fun hbi3 =>
 have hi3 : i3 < (n.change.q).length := by have := A6 hbi3; omega
 brL fun hli3 : (n.change.q).length <= d4 =>
 pQ (((i3 : Int) == (((n.change.q).length : Nat) : Int)) = false) (L6.2 (by omega)) (bN (iX (i3 : Int) (((n.change.q).length : Nat) : Int)) (ltC hi3) (bN (Nat.ble ((length ((k10 n ++ flatMap d5 (take i3 n.change.q))) + length (N (getD n.change.q (Int.toNat (i3 : Int)) (Ty.dflt D (Ty.st 2))).seq)) * j0 Tp 5) d4) (j3 140 (m9 (k := 3) z7 (c6v m5 p8) q32) (i4 _) (by omega)) (
 bN (Nat.ble ((length (((k10 n ++ flatMap d5 (take i3 n.change.q)) ++ N (getD n.change.q (Int.toNat (i3 : Int)) (Ty.dflt D (Ty.st 2))).seq)) + length ((getD n.change.q (Int.toNat (i3 : Int)) (Ty.dflt D (Ty.st 2))).dig.l)) * j0 Tp 5) d4) (j3 141 (i7 (m9 (k := 3) z7 (c6v m5 p8) q32) (i4 _)) (a1f _) (by omega)) (
 bN (Nat.ble ((length ((((k10 n ++ flatMap d5 (take i3 n.change.q)) ++ N (getD n.change.q (Int.toNat (i3 : Int)) (Ty.dflt D (Ty.st 2))).seq) ++ (getD n.change.q (Int.toNat (i3 : Int)) (Ty.dflt D (Ty.st 2))).dig.l)) + length (N (getD n.change.q (Int.toNat (i3 : Int)) (Ty.dflt D (Ty.st 2))).view)) * j0 Tp 5) d4) (j3 142 (i7 (i7 (m9 (k := 3) z7 (c6v m5 p8) q32) (i4 _)) (a1f _)) (i4 _) (by omega)) (
 (⟨i3 + 1, by
   show [SV.i .i64 (wrap .i64 ((i3 : Int) + 1))] = [iv ((i3 + 1 : Nat) : Int)]; rw [n4 hi3 hli3], by
   show ([HB.arr .u8 5 ((((k10 n ++ flatMap d5 (take i3 n.change.q)) ++ N (getD n.change.q (Int.toNat (i3 : Int)) (Ty.dflt D (Ty.st 2))).seq) ++ (getD n.change.q (Int.toNat (i3 : Int)) (Ty.dflt D (Ty.st 2))).dig.l) ++ N (getD n.change.q (Int.toNat (i3 : Int)) (Ty.dflt D (Ty.st 2))).view)] : List (HB D)) = [HB.arr .u8 5 (k10 n ++ flatMap d5 (take (i3 + 1) n.change.q))]; rw [<- a5d (d := Ty.dflt D (Ty.st 2)) hi3]; show ([HB.arr .u8 5 ((((k10 n ++ flatMap d5 (take i3 n.change.q)) ++ N (getD n.change.q (Int.toNat (i3 : Int)) (Ty.dflt D (Ty.st 2))).seq) ++ (getD n.change.q (Int.toNat (i3 : Int)) (Ty.dflt D (Ty.st 2))).dig.l) ++ N (getD n.change.q (Int.toNat (i3 : Int)) (Ty.dflt D (Ty.st 2))).view)] : List (HB D)) = [HB.arr .u8 5 ((k10 n ++ flatMap d5 (take i3 n.change.q)) ++ d5 (getD n.change.q (Int.toNat (i3 : Int)) (Ty.dflt D (Ty.st 2))))]; unfold d5; simp only [B6], rfl, (show i3 + 1 <= (n.change.q).length from hi3), by show (n.change.q).length - (i3 + 1) < (n.change.q).length - i3; omega⟩ : Rnd (a9d (k10 n) d5 n.change.q 1) i3 [SV.i .i64 (wrap .i64 ((i3 : Int) + 1))] [HB.arr .u8 5 ((((k10 n ++ flatMap d5 (take i3 n.change.q)) ++ N (getD n.change.q (Int.toNat (i3 : Int)) (Ty.dflt D (Ty.st 2))).seq) ++ (getD n.change.q (Int.toNat (i3 : Int)) (Ty.dflt D (Ty.st 2))).dig.l) ++ N (getD n.change.q (Int.toNat (i3 : Int)) (Ty.dflt D (Ty.st 2))).view)] [HB.box 184 [SV.own 0]]))))))) (fun hbi3 =>
 have hi3 : i3 = (n.change.q).length := by have := A9 hbi3; omega
 (by
  show some ((k10 n ++ flatMap d5 (take i3 n.change.q)), ()) = some (b7 n, ()); rw [hi3, D1, g5k] : some ((k10 n ++ flatMap d5 (take i3 n.change.q)), ()) = some (d0l.ret (shK n))))))))))))))))))
def f8w (n : d7) : (d6r n).ok Tp 116 := Con.proveHS (F := EF) (Z := ZL) (c := d6r n) (fun _ : Unit => (b7 n, ())) (fun _ => okB n) (fun a h => ⟨(), h.1, h.2⟩) (H := fun _ => rdH n) (call := fun _ => c6q (g5i n) (g5j n) (rdH n) 9) (fun _ => b6a 9) fun (_ : Unit) (hn : okB n) =>
 have hd : hdN n := hn.h
 have hc : j8 n.change = true := hn.c
 have hm : hdM n.change := (a1t hc).1
 have hs2 := (a1t hc).2.1
 have hs3 := (a1t hc).2.2
 have m5 : n.change.mz.length <= 5 := by have := hm.l; omega
 have p8 : n.change.p.length <= 8 := a8k hs2
 have q32 : n.change.q.length <= 32 := a8l hs3
 have hl1 : n.change.mz.length <= d4 := D5 m5 (by decide)
 have hl2 : n.change.p.length <= d4 := D5 p8 (by decide)
 have hl3 : n.change.q.length <= d4 := D5 q32 (by decide)
 pQ (m8.holds (b7 n, ()) /\ m8.ret (b7 n, ()) = (7, b6 n, 0, ())) (rdN (k := 140) (rfl) (by decide) (n8 (n8 (n8 (n8 (n8 (n8 (n8 (b0k m5 p8 q32)))))))) (by omega)) (pQ ((false : Bool) = false /\ (0 : Int) = 0) ⟨rfl, rfl⟩ (
 pQ (m8.holds (b6 n, ()) /\ m8.ret (b6 n, ()) = (n.sq, b5 n, 0, ())) (rdN (k := 139) (rfl) (by have := hd.s; omega) (n8 (n8 (n8 (n8 (n8 (n8 (b0k m5 p8 q32))))))) (by omega)) (pQ ((false : Bool) = false /\ (0 : Int) = 0) ⟨rfl, rfl⟩ (
 pQ (m8.holds (b5 n, ()) /\ m8.ret (b5 n, ()) = (n.group, b4 n, 0, ())) (rdN (k := 138) (rfl) (by have := hd.g; omega) (n8 (n8 (n8 (n8 (n8 (b0k m5 p8 q32)))))) (by omega)) (pQ ((false : Bool) = false /\ (0 : Int) = 0) ⟨rfl, rfl⟩ (
 pQ (m8.holds (b4 n, ()) /\ m8.ret (b4 n, ()) = (n.epoch, b3 n, 0, ())) (rdN (k := 137) (rfl) (by have := hd.e; omega) (n8 (n8 (n8 (n8 (b0k m5 p8 q32))))) (by omega)) (pQ ((false : Bool) = false /\ (0 : Int) = 0) ⟨rfl, rfl⟩ (
 pQ (m8.holds (b3 n, ()) /\ m8.ret (b3 n, ()) = (n.change.node, b2 n, 0, ())) (rdN (k := 136) (rfl) (by have := hm.n; omega) (n8 (n8 (n8 (b0k m5 p8 q32)))) (by omega)) (pQ ((false : Bool) = false /\ (0 : Int) = 0) ⟨rfl, rfl⟩ (
 pQ (m8.holds (b2 n, ()) /\ m8.ret (b2 n, ()) = (n.change.view, b1 n, 0, ())) (rdN (k := 135) (rfl) (by have := hm.v; omega) (n8 (n8 (b0k m5 p8 q32))) (by omega)) (pQ ((false : Bool) = false /\ (0 : Int) = 0) ⟨rfl, rfl⟩ (
 pQ (m8.holds (b1 n, ()) /\ m8.ret (b1 n, ()) = (n.change.low, b0 n, 0, ())) (rdN (k := 134) (rfl) (by have := hm.w; omega) (n8 (b0k m5 p8 q32)) (by omega)) (pQ ((false : Bool) = false /\ (0 : Int) = 0) ⟨rfl, rfl⟩ (
 pQ (m8.holds (b0 n, ()) /\ m8.ret (b0 n, ()) = ((((n.change.mz).length : Nat) : Int), zm n 0, 0, ())) (rdN (k := 133) (rfl) (by omega) (b0k m5 p8 q32) (by omega)) (pQ ((false : Bool) = false /\ (0 : Int) = 0) ⟨rfl, rfl⟩ (
 pQ ((bif false then true else decide (5 < (((n.change.mz).length : Nat) : Int))) = false) (by show decide (5 < (((n.change.mz).length : Nat) : Int)) = false; simp; omega) (And.intro (⟨(0 : Nat), rfl, rfl, rfl, C0 _⟩ : Ent (e5x n 1 0) [SV.i .i64 0] [HB.arr (.st 1) 116 ([])] [HB.box 225 [SV.sl .u8 (zm n 0), SV.b false], HB.box 46 (c6p n (.own 0) .nils .nils)]) (
 fun (i1 : Nat) (hIi1 : i1 <= (n.change.mz).length) =>
 bq (decide ((i1 : Int) < ((n.change.mz).length : Nat))) (fun hbi1 =>
 have hi1 : i1 < (n.change.mz).length := by have := A6 hbi1; omega
 pQ (((i1 : Int) == ((((n.change.mz).take i1).length : Nat) : Int)) = true) (by rw [C4, J0 (O0 hi1)]; exact Q5 _) (
 bN (Nat.ble ((length ((n.change.mz).take i1) + length ([⟨0, Dig.zero⟩] : List Mark)) * j0 Tp 116) d4) (f8u (by rw [C4]; omega)) (
 bN (iX (i1 : Int) ((((n.change.mz).take i1 ++ ([⟨0, Dig.zero⟩] : List Mark)).length : Nat) : Int)) (ltC (by rw [B7, C4, E9]; omega)) (
 pQ (m8.holds (zm n i1, ()) /\ m8.ret (zm n i1, ()) = ((mkA n.change.mz i1).seq, (mkA n.change.mz i1).dig.l ++ zm n (i1 + 1), 0, ())) (rdN (k := 132) (f0z hi1) (e6a hc _ hi1) (c6t m5 p8 q32 i1) (by omega)) (pQ ((false : Bool) = false /\ (0 : Int) = 0) ⟨rfl, rfl⟩ (pQ (a0v.holds ((mkA n.change.mz i1).dig.l ++ zm n (i1 + 1), 32, ()) /\ a0v.ret ((mkA n.change.mz i1).dig.l ++ zm n (i1 + 1), 32, ()) = ((mkA n.change.mz i1).dig.l, zm n (i1 + 1), 0, ())) (rdD (k := 133) (rfl) (e6b (c6t m5 p8 q32 _)) (by omega)) (pQ ((false : Bool) = false /\ (0 : Int) = 0) ⟨rfl, rfl⟩ (bN (decide ((32 : Nat) <= (mkA n.change.mz i1).dig.l.length)) (by rw [(mkA n.change.mz i1).dig.h]; rfl) ((⟨i1 + 1, by
   show [SV.i .i64 (wrap .i64 ((i1 : Int) + 1))] = [iv ((i1 + 1 : Nat) : Int)]; rw [n4 hi1 hl1], by
   show ([HB.arr (.st 1) 116 (mkR n.change.mz i1 (mkA n.change.mz i1))] : List (HB D)) = [HB.arr (.st 1) 116 ((n.change.mz).take (i1 + 1))]; rw [f8t hi1], rfl, (show i1 + 1 <= (n.change.mz).length from hi1), by show (n.change.mz).length - (i1 + 1) < (n.change.mz).length - i1; omega⟩ : Rnd (e5x n 1 0) i1 [SV.i .i64 (wrap .i64 ((i1 : Int) + 1))] [HB.arr (.st 1) 116 (mkR n.change.mz i1 (mkA n.change.mz i1))] [HB.box 225 [SV.sl .u8 (zm n (i1 + 1)), SV.b false], HB.box 46 (c6p n (.own 0) .nils .nils)])))))))))) (fun hbi1 =>
 have hi1 : i1 = (n.change.mz).length := by have := A9 hbi1; omega
 pQ (m8.holds (zm n i1, ()) /\ m8.ret (zm n i1, ()) = ((((n.change.p).length : Nat) : Int), zp n 0, 0, ())) (rdN (k := 132) (by rw [hi1, f8q]; rfl) (by omega) (c6t m5 p8 q32 i1) (by omega)) (pQ ((false : Bool) = false /\ (0 : Int) = 0) ⟨rfl, rfl⟩ (
 pQ ((bif false then true else decide (8 < (((n.change.p).length : Nat) : Int))) = false) (by show decide (8 < (((n.change.p).length : Nat) : Int)) = false; simp; omega) (And.intro (⟨(0 : Nat), rfl, by rw [hi1, D1]; rfl, rfl, C0 _⟩ : Ent (e5y n 1 0) [SV.i .i64 0] [HB.arr (.st 1) 116 (take i1 n.change.mz), HB.arr (.st 2) 118 []] [HB.box 225 [SV.sl .u8 (zp n 0), SV.b false], HB.box 46 (c6p n (.own 0) (.own 1) .nils)]) (
 fun (i2 : Nat) (hIi2 : i2 <= (n.change.p).length) =>
 bq (decide ((i2 : Int) < ((n.change.p).length : Nat))) (fun hbi2 =>
 have hi2 : i2 < (n.change.p).length := by have := A6 hbi2; omega
 pQ (((i2 : Int) == ((((n.change.p).take i2).length : Nat) : Int)) = true) (by rw [C4, J0 (O0 hi2)]; exact Q5 _) (
 bN (Nat.ble ((length ((n.change.p).take i2) + length ([⟨0, Dig.zero, 0⟩] : List i6)) * j0 Tp 118) d4) (e6k (by rw [C4]; omega)) (
 bN (iX (i2 : Int) ((((n.change.p).take i2 ++ ([⟨0, Dig.zero, 0⟩] : List i6)).length : Nat) : Int)) (ltC (by rw [B7, C4, E9]; omega)) (
 pQ (m8.holds (zp n i2, ()) /\ m8.ret (zp n i2, ()) = ((stA n.change.p i2).seq, (stA n.change.p i2).dig.l ++ (N (stA n.change.p i2).view ++ zp n (i2 + 1)), 0, ())) (rdN (k := 121) (f1a hi2) (c6r hc hs2 hi2).1 (c1c p8 q32 i2) (by omega)) (pQ ((false : Bool) = false /\ (0 : Int) = 0) ⟨rfl, rfl⟩ (pQ (a0v.holds ((stA n.change.p i2).dig.l ++ (N (stA n.change.p i2).view ++ zp n (i2 + 1)), 32, ()) /\ a0v.ret ((stA n.change.p i2).dig.l ++ (N (stA n.change.p i2).view ++ zp n (i2 + 1)), 32, ()) = ((stA n.change.p i2).dig.l, N (stA n.change.p i2).view ++ zp n (i2 + 1), 0, ())) (rdD (k := 123) (rfl) (e6b (n8 (c1c p8 q32 _))) (by omega)) (pQ ((false : Bool) = false /\ (0 : Int) = 0) ⟨rfl, rfl⟩ (bN (decide ((32 : Nat) <= (stA n.change.p i2).dig.l.length)) (by rw [(stA n.change.p i2).dig.h]; rfl) (pQ (m8.holds (N (stA n.change.p i2).view ++ zp n (i2 + 1), ()) /\ m8.ret (N (stA n.change.p i2).view ++ zp n (i2 + 1), ()) = ((stA n.change.p i2).view, zp n (i2 + 1), 0, ())) (rdN (k := 122) (rfl) (c6r hc hs2 hi2).2 (n8 (c1c p8 q32 _)) (by omega)) (pQ ((false : Bool) = false /\ (0 : Int) = 0) ⟨rfl, rfl⟩ ((⟨i2 + 1, by
   show [SV.i .i64 (wrap .i64 ((i2 : Int) + 1))] = [iv ((i2 + 1 : Nat) : Int)]; rw [n4 hi2 hl2], by
   show ([HB.arr (.st 1) 116 (n.change.mz), HB.arr (.st 2) 118 (snR n.change.p i2 (stA n.change.p i2))] : List (HB D)) = [HB.arr (.st 1) 116 (n.change.mz), HB.arr (.st 2) 118 ((n.change.p).take (i2 + 1))]; rw [e6c hi2], rfl, (show i2 + 1 <= (n.change.p).length from hi2), by show (n.change.p).length - (i2 + 1) < (n.change.p).length - i2; omega⟩ : Rnd (e5y n 1 0) i2 [SV.i .i64 (wrap .i64 ((i2 : Int) + 1))] [HB.arr (.st 1) 116 (n.change.mz), HB.arr (.st 2) 118 (snR n.change.p i2 (stA n.change.p i2))] [HB.box 225 [SV.sl .u8 (zp n (i2 + 1)), SV.b false], HB.box 46 (c6p n (.own 0) (.own 1) .nils)])))))))))))) (fun hbi2 =>
 have hi2 : i2 = (n.change.p).length := by have := A9 hbi2; omega
 pQ (m8.holds (zp n i2, ()) /\ m8.ret (zp n i2, ()) = ((((n.change.q).length : Nat) : Int), zq n 0, 0, ())) (rdN (k := 121) (by rw [hi2, f8r]; rfl) (by omega) (c1c p8 q32 i2) (by omega)) (pQ ((false : Bool) = false /\ (0 : Int) = 0) ⟨rfl, rfl⟩ (
 pQ ((bif false then true else decide (32 < (((n.change.q).length : Nat) : Int))) = false) (by show decide (32 < (((n.change.q).length : Nat) : Int)) = false; simp; omega) (And.intro (⟨(0 : Nat), rfl, by rw [hi2, D1]; rfl, rfl, C0 _⟩ : Ent (e5z n 1 0) [SV.i .i64 0] [HB.arr (.st 1) 116 n.change.mz, HB.arr (.st 2) 118 (take i2 n.change.p), HB.arr (.st 2) 118 []] [HB.box 225 [SV.sl .u8 (zq n 0), SV.b false], HB.box 46 (c6p n (.own 0) (.own 1) (.own 2))]) (
 fun (i3 : Nat) (hIi3 : i3 <= (n.change.q).length) =>
 bq (decide ((i3 : Int) < ((n.change.q).length : Nat))) (fun hbi3 =>
 have hi3 : i3 < (n.change.q).length := by have := A6 hbi3; omega
 pQ (((i3 : Int) == ((((n.change.q).take i3).length : Nat) : Int)) = true) (by rw [C4, J0 (O0 hi3)]; exact Q5 _) (
 bN (Nat.ble ((length ((n.change.q).take i3) + length ([⟨0, Dig.zero, 0⟩] : List i6)) * j0 Tp 118) d4) (e6k (by rw [C4]; omega)) (
 bN (iX (i3 : Int) ((((n.change.q).take i3 ++ ([⟨0, Dig.zero, 0⟩] : List i6)).length : Nat) : Int)) (ltC (by rw [B7, C4, E9]; omega)) (
 pQ (m8.holds (zq n i3, ()) /\ m8.ret (zq n i3, ()) = ((stA n.change.q i3).seq, (stA n.change.q i3).dig.l ++ (N (stA n.change.q i3).view ++ zq n (i3 + 1)), 0, ())) (rdN (k := 96) (f1b hi3) (c6r hc hs3 hi3).1 (c6s q32 i3) (by omega)) (pQ ((false : Bool) = false /\ (0 : Int) = 0) ⟨rfl, rfl⟩ (pQ (a0v.holds ((stA n.change.q i3).dig.l ++ (N (stA n.change.q i3).view ++ zq n (i3 + 1)), 32, ()) /\ a0v.ret ((stA n.change.q i3).dig.l ++ (N (stA n.change.q i3).view ++ zq n (i3 + 1)), 32, ()) = ((stA n.change.q i3).dig.l, N (stA n.change.q i3).view ++ zq n (i3 + 1), 0, ())) (rdD (k := 98) (rfl) (e6b (n8 (c6s q32 _))) (by omega)) (pQ ((false : Bool) = false /\ (0 : Int) = 0) ⟨rfl, rfl⟩ (bN (decide ((32 : Nat) <= (stA n.change.q i3).dig.l.length)) (by rw [(stA n.change.q i3).dig.h]; rfl) (pQ (m8.holds (N (stA n.change.q i3).view ++ zq n (i3 + 1), ()) /\ m8.ret (N (stA n.change.q i3).view ++ zq n (i3 + 1), ()) = ((stA n.change.q i3).view, zq n (i3 + 1), 0, ())) (rdN (k := 97) (rfl) (c6r hc hs3 hi3).2 (n8 (c6s q32 _)) (by omega)) (pQ ((false : Bool) = false /\ (0 : Int) = 0) ⟨rfl, rfl⟩ ((⟨i3 + 1, by
   show [SV.i .i64 (wrap .i64 ((i3 : Int) + 1))] = [iv ((i3 + 1 : Nat) : Int)]; rw [n4 hi3 hl3], by
   show ([HB.arr (.st 1) 116 (n.change.mz), HB.arr (.st 2) 118 (n.change.p), HB.arr (.st 2) 118 (snR n.change.q i3 (stA n.change.q i3))] : List (HB D)) = [HB.arr (.st 1) 116 (n.change.mz), HB.arr (.st 2) 118 (n.change.p), HB.arr (.st 2) 118 ((n.change.q).take (i3 + 1))]; rw [e6c hi3], rfl, (show i3 + 1 <= (n.change.q).length from hi3), by show (n.change.q).length - (i3 + 1) < (n.change.q).length - i3; omega⟩ : Rnd (e5z n 1 0) i3 [SV.i .i64 (wrap .i64 ((i3 : Int) + 1))] [HB.arr (.st 1) 116 (n.change.mz), HB.arr (.st 2) 118 (n.change.p), HB.arr (.st 2) 118 (snR n.change.q i3 (stA n.change.q i3))] [HB.box 225 [SV.sl .u8 (zq n (i3 + 1)), SV.b false], HB.box 46 (c6p n (.own 0) (.own 1) (.own 2))])))))))))))) (fun hbi3 =>
 have hi3 : i3 = (n.change.q).length := by have := A9 hbi3; omega
 brL fun hlz : (zq n i3).length <= d4 =>
 (by
  rw [hi3, f8s, D1]; rfl : some (({ c2j n with change := { n.change with q := take i3 n.change.q } } : d7), ((((zq n i3).length : Nat) : Int) == 0), ()) = some ((d6r n).ret (b7 n, ()))))))))))))))))))))))))))))))))
section
variable (n : d7)
def ez0 : List UInt8 := []
def ez1 : List UInt8 := n.dig.l ++ ez0
def ez2 : List UInt8 := N n.node ++ ez1 n
def ez3 : List UInt8 := N n.view ++ ez2 n
def ez4 : List UInt8 := N n.epoch ++ ez3 n
def ez5 : List UInt8 := N n.group ++ ez4 n
def ez6 : List UInt8 := N n.sq ++ ez5 n
def ez7 : List UInt8 := N 8 ++ ez6 n
end
def a8o {n : d7} : (ez1 n).length <= 40 * 1 := by unfold ez1 ez0; rw [D6]; exact a1f _
structure c6w (n : d7) : Prop where
  h : hdN n
  v : 1 <= n.view /\ n.view <= 1048576
  n : 1 <= n.node /\ n.node <= 28
def g5l (n : d7) (s : St D) : Option (HL D m8.rt) := match slV s 1 with
  | .ptr _ off => bif Nat.beq off 0 then some (8, ez6 n, 0, ()) else bif Nat.beq off 1 then some (n.sq, ez5 n, 0, ()) else bif Nat.beq off 2 then some (n.group, ez4 n, 0, ()) else bif Nat.beq off 3 then some (n.epoch, ez3 n, 0, ())
       else bif Nat.beq off 4 then some (n.view, ez2 n, 0, ()) else some (n.node, ez1 n, 0, ())
  | _ => none
def f8x (n : d7) (_ : St D) : Option (HL D a0v.rt) := some (n.dig.l, ez0, 0, ())
def d0n : Con D := { ts := [.st 7], rt := [.sl .u8], pre := some (fun a => a.1.kind = 8 /\ c6w a.1), ret := fun a => (ez7 a.1, ()) }
def d6s (n : d7) : Con D := { ts := [.sl .u8], rt := [.st 7, .bool], pre := some (fun a => a = (ez7 n, ()) /\ c6w n), ret := fun _ => (b7q n, true, ()) }
def a5e (n : d7) : HL D [.st 7] := (⟨8, n.sq, n.group, n.epoch, n.view, n.seq, n.dig, n.batch, n.answer, n.stamp, n.node, n.change, n.changes, n.picks, n.level, n.place, n.digests, n.data, n.nodes⟩, ())
def b1h {a : HL D [.st 7]} (h : a.1.kind = 8) : a = a5e a.1 := by
 obtain ⟨n, u⟩ := a
 cases n
 simp only at h
 subst h
 rfl
open Classical in
def no8 {n : d7} (hq : a5e n = (n, ())) (h : ¬ (hdN n /\ (1 <= n.view /\ n.view <= 1048576) /\ (1 <= n.node /\ n.node <= 28) /\ n.node ≠ n.sq)) : some (false, ()) = some (a7e.ret (a5e n)) := by
 rw [hq]
 show some (false, ()) = some (b2w n, ())
 have : b2w n = false := by unfold b2w; exact E5 h
 rw [this]
abbrev uH : Nat -> Nat -> Option (Hint D) := fun f r => match f, r with
 | 155, 2 => some (.unr 5)
 | _, _ => none
open Classical in
def f1d : a7e.ok Tp 114 := Con.proveHS (F := EF) (Z := ZL) (c := a7e) a5e (fun n => a5e n = (n, ())) (fun a h => ⟨a.1, b1h h, (b1h h).symm⟩) (H := fun _ => uH) (call := fun _ => a0g EF ZL Γmy noO uH 9) (fun _ => m7 ZL Kmy 9) fun (n : d7) (hq : a5e n = (n, ())) =>
 bq ((a0d.ret (n.group, (0 : Int), (2 : Int), ())).1) (fun h1 =>
 bq ((a0d.ret (n.epoch, (0 : Int), (1048576 : Int), ())).1) (fun h2 =>
 bq ((a0d.ret (n.sq, (1 : Int), (28 : Int), ())).1) (fun h3 =>
 bq (bif (a0d.ret (n.view, (0 : Int), (1048576 : Int), ())).1 then decide (0 < n.view) else false) (fun h4 =>
 (by
  rw [b2d] at h1 h2 h3 h4; rw [hq, b2d]; show some ((bif decide (1 <= n.node /\ n.node <= 28) then n.node != n.sq else false), ()) = some (b2w n, ())
  congr 2
  unfold b2w; have h : hdN n := ⟨A6 h1, A6 h2, A6 h3⟩; simp at h4; by_cases hn : 1 <= n.node /\ n.node <= 28
  ·by_cases he : n.node = n.sq
   ·simp [he]
   ·have : (1 <= n.view /\ n.view <= 1048576) := by omega
    simp [h, hn, he, this]
  ·rw [E5 hn]; symm; exact E5 fun g => hn g.2.2.1 : some ((bif (a0d.ret (n.node, (1 : Int), (28 : Int), ())).1 then n.node != n.sq else false), ()) = some (a7e.ret (a5e n)))) (fun h4 =>
 (no8 hq (fun g => by rw [b2d] at h4; have := g.2.1; simp at h4; omega) : some (false, ()) = some (a7e.ret (a5e n))))) (fun h3 =>
 (no8 hq (fun g => by rw [b2d] at h3; exact A9 h3 g.1.s) : some (false, ()) = some (a7e.ret (a5e n))))) (fun h2 =>
 (no8 hq (fun g => by rw [b2d] at h2; exact A9 h2 g.1.e) : some (false, ()) = some (a7e.ret (a5e n))))) (fun h1 =>
 (no8 hq (fun g => by rw [b2d] at h1; exact A9 h1 g.1.g) : some (false, ()) = some (a7e.ret (a5e n))))
def f8y : d0n.ok Tp 115 := Con.proveHS (F := EF) (Z := ZL) (c := d0n) a5e c6w (fun a h => ⟨a.1, b1h h.1, h.2⟩) (H := fun _ => uH) (call := fun _ => a0g EF ZL Γwr noO uH 9) (fun _ => m7 ZL Kwr 9) fun (n : d7) (hn : c6w n) =>
 bN (Nat.ble ((length (([] ++ N 8)) + length (N n.sq)) * j0 Tp 5) d4) (j3 1 (i7 (xs := []) (k := 0) (B9 _) (i4 _)) (i4 _) (by omega)) (
 bN (Nat.ble ((length ((([] ++ N 8) ++ N n.sq)) + length (N n.group)) * j0 Tp 5) d4) (j3 2 (i7 (i7 (xs := []) (k := 0) (B9 _) (i4 _)) (i4 _)) (i4 _) (by omega)) (
 bN (Nat.ble ((length (((([] ++ N 8) ++ N n.sq) ++ N n.group)) + length (N n.epoch)) * j0 Tp 5) d4) (j3 3 (i7 (i7 (i7 (xs := []) (k := 0) (B9 _) (i4 _)) (i4 _)) (i4 _)) (i4 _) (by omega)) (
 bN (Nat.ble ((length ((((([] ++ N 8) ++ N n.sq) ++ N n.group) ++ N n.epoch)) + length (N n.view)) * j0 Tp 5) d4) (j3 4 (i7 (i7 (i7 (i7 (xs := []) (k := 0) (B9 _) (i4 _)) (i4 _)) (i4 _)) (i4 _)) (i4 _) (by omega)) (
 bN (Nat.ble ((length (((((([] ++ N 8) ++ N n.sq) ++ N n.group) ++ N n.epoch) ++ N n.view)) + length (N n.node)) * j0 Tp 5) d4) (j3 5 (i7 (i7 (i7 (i7 (i7 (xs := []) (k := 0) (B9 _) (i4 _)) (i4 _)) (i4 _)) (i4 _)) (i4 _)) (i4 _) (by omega)) (
 bN (Nat.ble ((length ((((((([] ++ N 8) ++ N n.sq) ++ N n.group) ++ N n.epoch) ++ N n.view) ++ N n.node)) + 32) * j0 Tp 5) d4) (by have h := j3 (xs := (((((([] ++ N 8) ++ N n.sq) ++ N n.group) ++ N n.epoch) ++ N n.view) ++ N n.node)) (ys := n.dig.l) 6 (i7 (i7 (i7 (i7 (i7 (i7 (xs := []) (k := 0) (B9 _) (i4 _)) (i4 _)) (i4 _)) (i4 _)) (i4 _)) (i4 _)) (a1f n.dig) (by omega); rwa [n.dig.h] at h) (
 (by
  show some ((((((([] ++ N 8) ++ N n.sq) ++ N n.group) ++ N n.epoch) ++ N n.view) ++ N n.node) ++ n.dig.l, ()) = some (ez7 n, ()); simp [ez7, ez6, ez5, ez4, ez3, ez2, ez1, ez0, B6] : some ((((((([] ++ N 8) ++ N n.sq) ++ N n.group) ++ N n.epoch) ++ N n.view) ++ N n.node) ++ n.dig.l, ()) = some (d0n.ret (a5e n)))))))))
def f8z (n : d7) : (d6s n).ok Tp 116 := Con.proveHS (F := EF) (Z := ZL) (c := d6s n) (fun _ : Unit => (ez7 n, ())) (fun _ => c6w n) (fun a h => ⟨(), h.1, h.2⟩) (H := fun _ => uH) (call := fun _ => c6q (g5l n) (f8x n) uH 9) (fun _ => b6a 9) fun (_ : Unit) (hn : c6w n) =>
 have hd : hdN n := hn.h
 pQ (m8.holds (ez7 n, ()) /\ m8.ret (ez7 n, ()) = (8, ez6 n, 0, ())) (rdN (k := 7) rfl (by decide) (n8 (n8 (n8 (n8 (n8 (n8 a8o)))))) (by omega)) (pQ ((false : Bool) = false /\ (0 : Int) = 0) ⟨rfl, rfl⟩ (
 pQ (m8.holds (ez6 n, ()) /\ m8.ret (ez6 n, ()) = (n.sq, ez5 n, 0, ())) (rdN (k := 6) rfl (by have := hd.s; omega) (n8 (n8 (n8 (n8 (n8 a8o))))) (by omega)) (pQ ((false : Bool) = false /\ (0 : Int) = 0) ⟨rfl, rfl⟩ (
 pQ (m8.holds (ez5 n, ()) /\ m8.ret (ez5 n, ()) = (n.group, ez4 n, 0, ())) (rdN (k := 5) rfl (by have := hd.g; omega) (n8 (n8 (n8 (n8 a8o)))) (by omega)) (pQ ((false : Bool) = false /\ (0 : Int) = 0) ⟨rfl, rfl⟩ (
 pQ (m8.holds (ez4 n, ()) /\ m8.ret (ez4 n, ()) = (n.epoch, ez3 n, 0, ())) (rdN (k := 4) rfl (by have := hd.e; omega) (n8 (n8 (n8 a8o))) (by omega)) (pQ ((false : Bool) = false /\ (0 : Int) = 0) ⟨rfl, rfl⟩ (
 pQ (m8.holds (ez3 n, ()) /\ m8.ret (ez3 n, ()) = (n.view, ez2 n, 0, ())) (rdN (k := 3) rfl (by have := hn.v; omega) (n8 (n8 a8o)) (by omega)) (pQ ((false : Bool) = false /\ (0 : Int) = 0) ⟨rfl, rfl⟩ (
 pQ (m8.holds (ez2 n, ()) /\ m8.ret (ez2 n, ()) = (n.node, ez1 n, 0, ())) (rdN (k := 2) rfl (by have := hn.n; omega) (n8 a8o) (by omega)) (pQ ((false : Bool) = false /\ (0 : Int) = 0) ⟨rfl, rfl⟩ (
 pQ (a0v.holds (ez1 n, 32, ()) /\ a0v.ret (ez1 n, 32, ()) = (n.dig.l, ez0, 0, ())) (rdD (k := 1) rfl a8o (by omega)) (pQ ((false : Bool) = false /\ (0 : Int) = 0) ⟨rfl, rfl⟩ (
 bN (decide ((32 : Nat) <= n.dig.l.length)) (by rw [n.dig.h]; rfl) (
 (by
  show some (({ b7q n with dig := c2d n.dig.l } : d7), true, ()) = some (b7q n, true, ()); rw [b5z]; rfl : some (({ b7q n with dig := c2d n.dig.l } : d7), true, ()) = some ((d6s n).ret (ez7 n, ()))))))))))))))))))
def c4i (n : d7) : Bool := a9e n && dq n (c2j n)
def d0o (n : d7) : Bool := b2w n && dq n (b7q n)
def b1p (n : d7) : Bool := bif n.kind == 8 then d0o n else c4i n
def c4j : Con D := { ts := [.st 7], rt := [.int], pre := some (fun a => a.1.kind = 7), ret := fun a => (bif c4i a.1 then 0 else 2, ()) }
def c4k : Con D := { ts := [.st 7], rt := [.int], pre := some (fun a => a.1.kind = 8), ret := fun a => (bif d0o a.1 then 0 else 2, ()) }
def d3g : Con D := { ts := [.st 7], rt := [.int], pre := some (fun a => a.1.kind = 7 ∨ a.1.kind = 8), ret := fun a => (bif b1p a.1 then 0 else 2, ()) }
abbrev Γp7 (n : d7) : Nat -> Option (Con D) := i5 (i5 (i5 (i5 noC 114 a8n) 115 d0l) 116 (d6r n)) 117 c6c
abbrev Γp8 (n : d7) : Nat -> Option (Con D) := i5 (i5 (i5 (i5 noC 114 a7e) 115 d0n) 116 (d6s n)) 117 c6c
def Kp7 (n : d7) : n3 EF Tp (Γp7 n) noO := (((K0.c f1c).c f8v).c (f8w n)).c e4g
def Kp8 (n : d7) : n3 EF Tp (Γp8 n) noO := (((K0.c f1d).c f8y).c (f8z n)).c e4g
open Classical in
def c6x {n : d7} (h : a9e n = true) : okB n := by unfold a9e at h; have h := A6 h; exact ⟨h.1, h.2.1⟩
open Classical in
def c6y {n : d7} (h : b2w n = true) : c6w n := by unfold b2w at h; have h := A6 h; exact ⟨h.1, h.2.1, h.2.2.1⟩
def b6x {b : Bool} (h : (!b) = false) : b = true := by cases b <;> simp_all
def d0p {b : Bool} (h : (!b) = true) : b = false := by cases b <;> simp_all
def f9a : c4j.ok Tp 39 := Con.proveHS (F := EF) (Z := ZL) (c := c4j) shK (fun n => shK n = (n, ())) (fun a h => ⟨a.1, b6b h, (b6b h).symm⟩) (H := fun _ _ _ => none) (call := fun n => a0g EF ZL (Γp7 n) noO (fun _ _ => none) 9) (fun n => m7 ZL (Kp7 n) 9) fun (n : d7) (hq : shK n = (n, ())) =>
 pQ ((7 : Int) = 7) rfl (
 bq (!(a8n.ret (shK n)).1) (fun h1 => (by
  rw [hq] at h1 ⊢; show some ((2 : Int), ()) = some (bif a9e n && dq n (c2j n) then 0 else 2, ()); rw [show a9e n = false from d0p h1]; rfl : some ((2 : Int), ()) = some (c4j.ret (shK n)))) (fun h1 =>
 have hf : a9e n = true := by rw [hq] at h1; exact b6x h1
 pQ ((7 : Int) = 7 /\ okB (shK n).1) ⟨rfl, by rw [hq]; exact c6x hf⟩ (
 pQ (d0l.ret (shK n) = (b7 n, ()) /\ okB n) ⟨rfl, c6x hf⟩ (
 bq (!(dq (α := d7) (shK n).1 (c2j n))) (fun h2 => (by
  rw [hq] at h2 ⊢; show some ((2 : Int), ()) = some (bif a9e n && dq n (c2j n) then 0 else 2, ()); rw [show dq n (c2j n) = false from d0p h2, O5]; rfl : some ((2 : Int), ()) = some (c4j.ret (shK n)))) (fun h2 => (by
  rw [hq] at h2 ⊢; show some ((0 : Int), ()) = some (bif a9e n && dq n (c2j n) then 0 else 2, ()); rw [show dq n (c2j n) = true from b6x h2, hf]; rfl : some ((0 : Int), ()) = some (c4j.ret (shK n))))))))
def f9b : c4k.ok Tp 39 := Con.proveHS (F := EF) (Z := ZL) (c := c4k) a5e (fun n => a5e n = (n, ())) (fun a h => ⟨a.1, b1h h, (b1h h).symm⟩) (H := fun _ _ _ => none) (call := fun n => a0g EF ZL (Γp8 n) noO (fun _ _ => none) 9) (fun n => m7 ZL (Kp8 n) 9) fun (n : d7) (hq : a5e n = (n, ())) =>
 pQ ((8 : Int) = 8) rfl (
 bq (!(a7e.ret (a5e n)).1) (fun h1 => (by
  rw [hq] at h1 ⊢; show some ((2 : Int), ()) = some (bif b2w n && dq n (b7q n) then 0 else 2, ()); rw [show b2w n = false from d0p h1]; rfl : some ((2 : Int), ()) = some (c4k.ret (a5e n)))) (fun h1 =>
 have hf : b2w n = true := by rw [hq] at h1; exact b6x h1
 pQ ((8 : Int) = 8 /\ c6w (a5e n).1) ⟨rfl, by rw [hq]; exact c6y hf⟩ (
 pQ (d0n.ret (a5e n) = (ez7 n, ()) /\ c6w n) ⟨rfl, c6y hf⟩ (
 bq (!(dq (α := d7) (a5e n).1 (b7q n))) (fun h2 => (by
  rw [hq] at h2 ⊢; show some ((2 : Int), ()) = some (bif b2w n && dq n (b7q n) then 0 else 2, ()); rw [show dq n (b7q n) = false from d0p h2, O5]; rfl : some ((2 : Int), ()) = some (c4k.ret (a5e n)))) (fun h2 => (by
  rw [hq] at h2 ⊢; show some ((0 : Int), ()) = some (bif b2w n && dq n (b7q n) then 0 else 2, ()); rw [show dq n (b7q n) = true from b6x h2, hf]; rfl : some ((0 : Int), ()) = some (c4k.ret (a5e n))))))))
def g5m : d3g.ok Tp 39 := by
 intro a G w vs hw hp hv
 rcases hp with h | h
 ·have := f9a a G w vs hw h hv; have e : d3g.ret a = c4j.ret a := by
   show ((bif b1p a.1 then 0 else 2 : Int), ()) = (bif c4i a.1 then 0 else 2, ()); unfold b1p; rw [h]; rfl
  rw [e]; exact this
 ·have := f9b a G w vs hw h hv; have e : d3g.ret a = c4k.ret a := by
   show ((bif b1p a.1 then 0 else 2 : Int), ()) = (bif d0o a.1 then 0 else 2, ()); unfold b1p; rw [h]; rfl
  rw [e]; exact this
def f9c (a : HL D [.int, .int, .int]) : HL D [.bool] :=
 (bif decide (a.2.1 <= a.1) then decide (a.1 <= a.2.2.1) else false, ())
def o9 : Con D := { ts := [.int, .int, .int], rt := [.bool], ret := f9c }
def f1e : o9.ok Tp 228 := Con.prove (c := o9) EF ((Z0.side K0).skip) K0 (H := H0) (n := 4) fun (a : HL D o9.ts) (hp : o9.holds a) =>
 o9.lf a (rfl)
def f9d (a : HL D [.int, .int, .int]) : HL D [.bool] :=
 (bif decide (a.2.1 <= a.1) then decide (a.1 <= a.2.2.1) else false, ())
def p0 : Con D := { ts := [.int, .int, .int], rt := [.bool], ret := f9d }
def d6t : p0.ok Tp 133 := Con.prove (c := p0) EF ((Z0.side K0).skip) K0 (H := H0) (n := 4) fun (a : HL D p0.ts) (hp : p0.holds a) =>
 p0.lf a (rfl)
def f9e (a : HL D [.int]) : HL D [.bool] :=
 (bif decide (1 <= a.1) then decide (a.1 <= 28) else false, ())
def a3t : Con D := { ts := [.int], rt := [.bool], ret := f9e }
def d6u : a3t.ok Tp 132 := Con.prove (c := a3t) EF ((Z0.side K0).skip) K0 (H := H0) (n := 4) fun (a : HL D a3t.ts) (hp : a3t.holds a) =>
 a3t.lf a (rfl)
def f9f (a : HL D [.int]) : HL D [.bool] :=
 (bif decide (0 <= a.1) then decide (a.1 <= 1048576) else false, ())
def a4r : Con D := { ts := [.int], rt := [.bool], ret := f9f }
def f1f : a4r.ok Tp 183 := Con.prove (c := a4r) EF ((Z0.side K0).skip) K0 (H := H0) (n := 4) fun (a : HL D a4r.ts) (hp : a4r.holds a) =>
 a4r.lf a (rfl)
def f9g (a : HL D [.st 4]) : HL D [.st 4] :=
 bif a.1.kind == 5 then
 ({ client := 0, stamp := 0, group := a.1.group, epoch := a.1.epoch, kind := a.1.kind, block := 0, data := [], old := 0, nw := 0, next := a.1.next }, ())
 else bif a.1.kind == 2 then
 bif a.1.kind == 4 then
 ({ client := a.1.client, stamp := a.1.stamp, group := a.1.group, epoch := a.1.epoch, kind := a.1.kind, block := a.1.block, data := a.1.data, old := a.1.old, nw := a.1.nw, next := [] }, ())
 else ({ client := a.1.client, stamp := a.1.stamp, group := a.1.group, epoch := a.1.epoch, kind := a.1.kind, block := a.1.block, data := a.1.data, old := 0, nw := 0, next := [] }, ())
 else bif a.1.kind == 4 then
 ({ client := a.1.client, stamp := a.1.stamp, group := a.1.group, epoch := a.1.epoch, kind := a.1.kind, block := a.1.block, data := [], old := a.1.old, nw := a.1.nw, next := [] }, ())
 else ({ client := a.1.client, stamp := a.1.stamp, group := a.1.group, epoch := a.1.epoch, kind := a.1.kind, block := a.1.block, data := [], old := 0, nw := 0, next := [] }, ())
def a1d : Con D := { ts := [.st 4], rt := [.st 4], ret := f9g }
def f1g : a1d.ok Tp 229 := Con.prove (c := a1d) EF ((Z0.side K0).skip) K0 (H := H0) (n := 4) fun (a : HL D a1d.ts) (hp : a1d.holds a) =>
 br_ (fun h1 => a1d.lf a (ct h1 (rfl))) (fun h1 => br_ (fun h2 => br_ (fun h3 => a1d.lf a (cf h1 (ct h2 (ct h3 (rfl))))) (fun h3 => a1d.lf a (cf h1 (ct h2 (cf h3 (rfl)))))) (fun h2 => br_ (fun h3 => a1d.lf a (cf h1 (cf h2 (ct h3 (rfl))))) (fun h3 => a1d.lf a (cf h1 (cf h2 (cf h3 (rfl)))))))
abbrev iA (l : List Int) (i : Nat) : Int := l.getD i (Ty.dflt D .int)
abbrev a7u (l : List Int) (i : Nat) : Prop := (1 <= iA l i /\ iA l i <= 28) /\ (0 < i -> iA l (i - 1) < iA l i)
open Classical in
def nxB (l : List Int) : Bool := decide ((l.length = 1 ∨ l.length = 4 ∨ l.length = 7) /\ ∀ i, i < l.length -> a7u l i)
open Classical in
def riB (l : List Int) : Bool := decide ((1 <= l.length /\ l.length <= 7) /\ ∀ i, i < l.length -> a7u l i)
def b1q : Con D := { ts := [.sl .int], rt := [.bool], ret := fun a => (nxB a.1, ()) }
def b4l : Con D := { ts := [.sl .int], rt := [.bool], ret := fun a => (riB a.1, ()) }
def d0q (l : List Int) : LH D := ⟨Nat, [3], fun i => [iv (i : Int)], fun i => i <= l.length /\ ∀ k, k < i -> a7u l k, fun i => l.length - i, [], fun _ => [], [], fun _ => []⟩
def nxH (a : HL D b1q.ts) : Nat -> Nat -> Option (Hint D) := fun f r => match f, r with
 | 230, 4 => some (.inv (d0q a.1))
 | _, _ => none
def riH (a : HL D b4l.ts) : Nat -> Nat -> Option (Hint D) := fun f r => match f, r with
 | 186, 2 => some (.inv (d0q a.1))
 | _, _ => none
section
open Classical
def e6l {a : HL D b1q.ts} (h : ¬ ((a.1.length = 1 ∨ a.1.length = 4 ∨ a.1.length = 7) /\ ∀ i, i < a.1.length -> a7u a.1 i)) : some (false, ()) = some (b1q.ret a) := by
 show some (false, ()) = some (nxB a.1, ()); unfold nxB; rw [E5 h]
def g5n {a : HL D b1q.ts} (h : (a.1.length = 1 ∨ a.1.length = 4 ∨ a.1.length = 7) /\ ∀ i, i < a.1.length -> a7u a.1 i) : some (true, ()) = some (b1q.ret a) := by
 show some (true, ()) = some (nxB a.1, ()); unfold nxB; rw [F6 h]
def f3s {a : HL D b4l.ts} (h : ¬ ((1 <= a.1.length /\ a.1.length <= 7) /\ ∀ i, i < a.1.length -> a7u a.1 i)) : some (false, ()) = some (b4l.ret a) := by
 show some (false, ()) = some (riB a.1, ()); unfold riB; rw [E5 h]
def g5o {a : HL D b4l.ts} (h : ∀ i, i < a.1.length -> a7u a.1 i) : some ((bif decide (1 <= ((a.1.length : Nat) : Int)) then decide (((a.1.length : Nat) : Int) <= 7) else false), ()) = some (b4l.ret a) := by
 show some (_, ()) = some (riB a.1, ()); unfold riB
 rw [rgI]
 congr 2
 rw [V4]
 constructor
 ·intro g; exact ⟨by omega, h⟩
 ·intro g; have := g.1; omega
end
def g5p : b1q.ok Tp 230 := Con.proveH (c := b1q) EF ((Z0.side K0).skip) (H := nxH) (call := fun a => a0g EF ((Z0.side K0).skip) noC noO (nxH a) 4) (fun _ => m7 _ K0 4) fun (a : HL D b1q.ts) (_ : b1q.holds a) =>
 brL fun _ : a.1.length <= d4 =>
 bq (bif bif ((a.1.length : Nat) : Int) != 1 then ((a.1.length : Nat) : Int) != 4 else false then ((a.1.length : Nat) : Int) != 7 else false) (fun h2 => (e6l (fun r => by rcases r.1 with e | e | e <;> rw [e] at h2 <;> exact absurd h2 (by decide)) : some (false, ()) = some (b1q.ret a))) (fun h2 =>
 And.intro (⟨(0 : Nat), rfl, rfl, rfl, ⟨C0 _, fun k hk => absurd hk (Q7 k)⟩⟩ : Ent (d0q a.1) [SV.i .i64 0] [] []) (
 fun (i : Nat) (hI : i <= a.1.length /\ ∀ k, k < i -> a7u a.1 k) =>
 brL fun hl : a.1.length <= d4 =>
 bq (decide ((i : Int) < (a.1.length : Nat))) (fun h3 =>
 have hi : i < a.1.length := by have := A6 h3; omega
 have eP : 0 < i -> (wrap .i64 ((i : Int) - 1)) = ((i - 1 : Nat) : Int) := fun h => by unfold d4 at hl; rw [IntWalk.i64_in _ (by omega)]; omega
 bN (iX (i : Int) ((a.1.length : Nat) : Int)) (ltC hi) (
 bq (!bif decide (1 <= (iA a.1 i)) then decide ((iA a.1 i) <= (28 : Int)) else false) (fun h4 => (e6l (fun r => (fun r => rgT h4 (r i hi).1) r.2) : some (false, ()) = some (b1q.ret a))) (fun h4 =>
 bq (decide (0 < (i : Int))) (fun h5 =>
 have hp : 0 < i := by have := A6 h5; omega
 bN (iX (i : Int) ((a.1.length : Nat) : Int)) (ltC hi) (
 bN (iX (wrap .i64 ((i : Int) - 1)) ((a.1.length : Nat) : Int)) (by rw [eP hp]; exact ltC (by omega)) (
 bq (decide ((iA a.1 i) <= (iA a.1 (wrap .i64 ((i : Int) - 1)).toNat))) (fun h6 => (e6l (fun r => (fun r => by have h := A6 h6; rw [eP hp, G6] at h; have := (r i hi).2 hp; omega) r.2) : some (false, ()) = some (b1q.ret a))) (fun h6 =>
 (⟨i + 1, by
  show [SV.i .i64 (wrap .i64 ((i : Int) + 1))] = [iv ((i + 1 : Nat) : Int)]; rw [n4 hi hl], rfl, rfl, ⟨hi, fun k hk => by
   rcases F1.1 hk with hk | rfl
   ·exact hI.2 k hk
   ·exact ⟨rgF h4, fun hp => by have h := A9 h6; rw [eP hp, G6] at h; omega⟩⟩, by show a.1.length - (i + 1) < a.1.length - i; omega⟩ : Rnd (d0q a.1) i [SV.i .i64 (wrap .i64 ((i : Int) + 1))] [] []))))) (fun h5 =>
 (⟨i + 1, by
  show [SV.i .i64 (wrap .i64 ((i : Int) + 1))] = [iv ((i + 1 : Nat) : Int)]; rw [n4 hi hl], rfl, rfl, ⟨hi, fun k hk => by
   rcases F1.1 hk with hk | rfl
   ·exact hI.2 k hk
   ·exact ⟨rgF h4, fun hp => by have := A9 h5; omega⟩⟩, by show a.1.length - (i + 1) < a.1.length - i; omega⟩ : Rnd (d0q a.1) i [SV.i .i64 (wrap .i64 ((i : Int) + 1))] [] []))))) (fun h3 =>
 have hA : ∀ k, k < a.1.length -> a7u a.1 k := fun k hk => hI.2 k (by have := A9 h3; omega)
 (g5n ⟨by simp at h2; omega, hA⟩ : some (true, ()) = some (b1q.ret a)))))
def g5q : b4l.ok Tp 186 := Con.proveH (c := b4l) EF ((Z0.side K0).skip) (H := riH) (call := fun a => a0g EF ((Z0.side K0).skip) noC noO (riH a) 4) (fun _ => m7 _ K0 4) fun (a : HL D b4l.ts) (_ : b4l.holds a) =>
 And.intro (⟨(0 : Nat), rfl, rfl, rfl, ⟨C0 _, fun k hk => absurd hk (Q7 k)⟩⟩ : Ent (d0q a.1) [SV.i .i64 0] [] []) (
 fun (i : Nat) (hI : i <= a.1.length /\ ∀ k, k < i -> a7u a.1 k) =>
 brL fun hl : a.1.length <= d4 =>
 bq (decide ((i : Int) < (a.1.length : Nat))) (fun h3 =>
 have hi : i < a.1.length := by have := A6 h3; omega
 have eP : 0 < i -> (wrap .i64 ((i : Int) - 1)) = ((i - 1 : Nat) : Int) := fun h => by unfold d4 at hl; rw [IntWalk.i64_in _ (by omega)]; omega
 bN (iX (i : Int) ((a.1.length : Nat) : Int)) (ltC hi) (
 bq (!bif decide (1 <= (iA a.1 i)) then decide ((iA a.1 i) <= (28 : Int)) else false) (fun h4 => (f3s (fun r => (fun r => rgT h4 (r i hi).1) r.2) : some (false, ()) = some (b4l.ret a))) (fun h4 =>
 bq (decide (0 < (i : Int))) (fun h5 =>
 have hp : 0 < i := by have := A6 h5; omega
 bN (iX (i : Int) ((a.1.length : Nat) : Int)) (ltC hi) (
 bN (iX (wrap .i64 ((i : Int) - 1)) ((a.1.length : Nat) : Int)) (by rw [eP hp]; exact ltC (by omega)) (
 bq (decide ((iA a.1 i) <= (iA a.1 (wrap .i64 ((i : Int) - 1)).toNat))) (fun h6 => (f3s (fun r => (fun r => by have h := A6 h6; rw [eP hp, G6] at h; have := (r i hi).2 hp; omega) r.2) : some (false, ()) = some (b4l.ret a))) (fun h6 =>
 (⟨i + 1, by
  show [SV.i .i64 (wrap .i64 ((i : Int) + 1))] = [iv ((i + 1 : Nat) : Int)]; rw [n4 hi hl], rfl, rfl, ⟨hi, fun k hk => by
   rcases F1.1 hk with hk | rfl
   ·exact hI.2 k hk
   ·exact ⟨rgF h4, fun hp => by have h := A9 h6; rw [eP hp, G6] at h; omega⟩⟩, by show a.1.length - (i + 1) < a.1.length - i; omega⟩ : Rnd (d0q a.1) i [SV.i .i64 (wrap .i64 ((i : Int) + 1))] [] []))))) (fun h5 =>
 (⟨i + 1, by
  show [SV.i .i64 (wrap .i64 ((i : Int) + 1))] = [iv ((i + 1 : Nat) : Int)]; rw [n4 hi hl], rfl, rfl, ⟨hi, fun k hk => by
   rcases F1.1 hk with hk | rfl
   ·exact hI.2 k hk
   ·exact ⟨rgF h4, fun hp => by have := A9 h5; omega⟩⟩, by show a.1.length - (i + 1) < a.1.length - i; omega⟩ : Rnd (d0q a.1) i [SV.i .i64 (wrap .i64 ((i : Int) + 1))] [] []))))) (fun h3 =>
 have hA : ∀ k, k < a.1.length -> a7u a.1 k := fun k hk => hI.2 k (by have := A9 h3; omega)
 brL fun _ : a.1.length <= d4 =>
 (g5o hA : some (bif decide (1 <= ((a.1.length : Nat) : Int)) then decide (((a.1.length : Nat) : Int) <= 7) else false, ()) = some (b4l.ret a))))
abbrev Γwk : Nat -> Option (Con D) := i5 (i5 (i5 (i5 noC 228 o9) 229 a1d) 187 a4t) 230 b1q
def Kwk : n3 EF Tp Γwk noO := (((K0.c f1e).c f1g).c e4b).c g5p
def f9h (a : HL D [.st 4]) : HL D [.int] :=
 bif (o9.ret (a.1.epoch, (0 : Int), (1048576 : Int), ())).1 then
 bif a.1.kind != 5 then
 bif a.1.kind == 1 then
 bif !bif bif bif bif (a4t.ret (a.1, a1d.ret a)).1 then (o9.ret (a.1.client, (31 : Int), (34 : Int), ())).1 else false then (o9.ret (a.1.stamp, (1 : Int), (9007199254740991 : Int), ())).1 else false then (o9.ret (a.1.group, (1 : Int), (2 : Int), ())).1 else false then (o9.ret (a.1.block, (0 : Int), (7 : Int), ())).1 else false then
 ((2 : Int), ())
 else ((0 : Int), ())
 else bif a.1.kind == 2 then
 bif !bif bif bif bif bif (a4t.ret (a.1, a1d.ret a)).1 then (o9.ret (a.1.client, (31 : Int), (34 : Int), ())).1 else false then (o9.ret (a.1.stamp, (1 : Int), (9007199254740991 : Int), ())).1 else false then (o9.ret (a.1.group, (1 : Int), (2 : Int), ())).1 else false then (o9.ret (a.1.block, (0 : Int), (7 : Int), ())).1 else false then (↑(length a.1.data) : Int) == 16 else false then
 ((2 : Int), ())
 else ((0 : Int), ())
 else bif a.1.kind == 3 then
 bif !bif bif bif (a4t.ret (a.1, a1d.ret a)).1 then (o9.ret (a.1.client, (31 : Int), (34 : Int), ())).1 else false then (o9.ret (a.1.stamp, (1 : Int), (9007199254740991 : Int), ())).1 else false then bif bif a.1.group == 0 then a.1.epoch == 0 else false then (o9.ret (a.1.block, (1 : Int), (2 : Int), ())).1 else false else false then
 ((2 : Int), ())
 else ((0 : Int), ())
 else bif a.1.kind == 4 then
 bif !bif bif bif bif bif bif (a4t.ret (a.1, a1d.ret a)).1 then (o9.ret (a.1.client, (31 : Int), (34 : Int), ())).1 else false then (o9.ret (a.1.stamp, (1 : Int), (9007199254740991 : Int), ())).1 else false then bif bif a.1.group == 0 then a.1.epoch == 0 else false then (o9.ret (a.1.block, (1 : Int), (2 : Int), ())).1 else false else false then (o9.ret (a.1.old, (1 : Int), (28 : Int), ())).1 else false then (o9.ret (a.1.nw, (1 : Int), (28 : Int), ())).1 else false then a.1.old != a.1.nw else false then
 ((2 : Int), ())
 else ((0 : Int), ())
 else bif a.1.kind == 5 then
 bif !bif bif bif bif (a4t.ret (a.1, a1d.ret a)).1 then (o9.ret (a.1.client, (31 : Int), (34 : Int), ())).1 else false then (o9.ret (a.1.stamp, (1 : Int), (9007199254740991 : Int), ())).1 else false then (o9.ret (a.1.group, (1 : Int), (2 : Int), ())).1 else false then (b1q.ret (a.1.next, ())).1 else false then
 ((2 : Int), ())
 else ((0 : Int), ())
 else ((2 : Int), ())
 else bif a.1.kind == 1 then
 bif !bif bif (a4t.ret (a.1, a1d.ret a)).1 then (o9.ret (a.1.group, (1 : Int), (2 : Int), ())).1 else false then (o9.ret (a.1.block, (0 : Int), (7 : Int), ())).1 else false then
 ((2 : Int), ())
 else ((0 : Int), ())
 else bif a.1.kind == 2 then
 bif !bif bif bif (a4t.ret (a.1, a1d.ret a)).1 then (o9.ret (a.1.group, (1 : Int), (2 : Int), ())).1 else false then (o9.ret (a.1.block, (0 : Int), (7 : Int), ())).1 else false then (↑(length a.1.data) : Int) == 16 else false then
 ((2 : Int), ())
 else ((0 : Int), ())
 else bif a.1.kind == 3 then
 bif !bif (a4t.ret (a.1, a1d.ret a)).1 then bif bif a.1.group == 0 then a.1.epoch == 0 else false then (o9.ret (a.1.block, (1 : Int), (2 : Int), ())).1 else false else false then
 ((2 : Int), ())
 else ((0 : Int), ())
 else bif a.1.kind == 4 then
 bif !bif bif bif bif (a4t.ret (a.1, a1d.ret a)).1 then bif bif a.1.group == 0 then a.1.epoch == 0 else false then (o9.ret (a.1.block, (1 : Int), (2 : Int), ())).1 else false else false then (o9.ret (a.1.old, (1 : Int), (28 : Int), ())).1 else false then (o9.ret (a.1.nw, (1 : Int), (28 : Int), ())).1 else false then a.1.old != a.1.nw else false then
 ((2 : Int), ())
 else ((0 : Int), ())
 else bif a.1.kind == 5 then
 bif !bif bif (a4t.ret (a.1, a1d.ret a)).1 then (o9.ret (a.1.group, (1 : Int), (2 : Int), ())).1 else false then (b1q.ret (a.1.next, ())).1 else false then
 ((2 : Int), ())
 else ((0 : Int), ())
 else ((2 : Int), ())
 else bif a.1.kind != 5 then
 bif a.1.kind == 1 then
 ((2 : Int), ())
 else bif a.1.kind == 2 then
 ((2 : Int), ())
 else bif a.1.kind == 3 then
 ((2 : Int), ())
 else bif a.1.kind == 4 then
 ((2 : Int), ())
 else bif a.1.kind == 5 then
 ((2 : Int), ())
 else ((2 : Int), ())
 else bif a.1.kind == 1 then
 ((2 : Int), ())
 else bif a.1.kind == 2 then
 ((2 : Int), ())
 else bif a.1.kind == 3 then
 ((2 : Int), ())
 else bif a.1.kind == 4 then
 ((2 : Int), ())
 else bif a.1.kind == 5 then
 ((2 : Int), ())
 else ((2 : Int), ())
def o0 : Con D := { ts := [.st 4], rt := [.int], ret := f9h }
def f1h : o0.ok Tp 214 := Con.prove (c := o0) EF ((Z0.side Kwk).skip) Kwk (H := H0) (n := 4) fun (a : HL D o0.ts) (hp : o0.holds a) =>
 br_ (fun h1 => br_ (fun h2 => br_ (fun h3 => br_ (fun h4 => o0.lf a (ct h1 (ct h2 (ct h3 (ct h4 (rfl)))))) (fun h4 => o0.lf a (ct h1 (ct h2 (ct h3 (cf h4 (rfl))))))) (fun h3 => br_ (fun h4 => br_ (fun h5 => o0.lf a (ct h1 (ct h2 (cf h3 (ct h4 (ct h5 (rfl))))))) (fun h5 => o0.lf a (ct h1 (ct h2 (cf h3 (ct h4 (cf h5 (rfl)))))))) (fun h4 => br_ (fun h5 => br_ (fun h6 => o0.lf a (ct h1 (ct h2 (cf h3 (cf h4 (ct h5 (ct h6 (rfl)))))))) (fun h6 => o0.lf a (ct h1 (ct h2 (cf h3 (cf h4 (ct h5 (cf h6 (rfl))))))))) (fun h5 => br_ (fun h6 => br_ (fun h7 => o0.lf a (ct h1 (ct h2 (cf h3 (cf h4 (cf h5 (ct h6 (ct h7 (rfl))))))))) (fun h7 => o0.lf a (ct h1 (ct h2 (cf h3 (cf h4 (cf h5 (ct h6 (cf h7 (rfl)))))))))) (fun h6 => br_ (fun h7 => br_ (fun h8 => o0.lf a (ct h1 (ct h2 (cf h3 (cf h4 (cf h5 (cf h6 (ct h7 (ct h8 (rfl)))))))))) (fun h8 => o0.lf a (ct h1 (ct h2 (cf h3 (cf h4 (cf h5 (cf h6 (ct h7 (cf h8 (rfl))))))))))) (fun h7 => o0.lf a (ct h1 (ct h2 (cf h3 (cf h4 (cf h5 (cf h6 (cf h7 (rfl)))))))))))))) (fun h2 => br_ (fun h3 => br_ (fun h4 => o0.lf a (ct h1 (cf h2 (ct h3 (ct h4 (rfl)))))) (fun h4 => o0.lf a (ct h1 (cf h2 (ct h3 (cf h4 (rfl))))))) (fun h3 => br_ (fun h4 => br_ (fun h5 => o0.lf a (ct h1 (cf h2 (cf h3 (ct h4 (ct h5 (rfl))))))) (fun h5 => o0.lf a (ct h1 (cf h2 (cf h3 (ct h4 (cf h5 (rfl)))))))) (fun h4 => br_ (fun h5 => br_ (fun h6 => o0.lf a (ct h1 (cf h2 (cf h3 (cf h4 (ct h5 (ct h6 (rfl)))))))) (fun h6 => o0.lf a (ct h1 (cf h2 (cf h3 (cf h4 (ct h5 (cf h6 (rfl))))))))) (fun h5 => br_ (fun h6 => br_ (fun h7 => o0.lf a (ct h1 (cf h2 (cf h3 (cf h4 (cf h5 (ct h6 (ct h7 (rfl))))))))) (fun h7 => o0.lf a (ct h1 (cf h2 (cf h3 (cf h4 (cf h5 (ct h6 (cf h7 (rfl)))))))))) (fun h6 => br_ (fun h7 => br_ (fun h8 => o0.lf a (ct h1 (cf h2 (cf h3 (cf h4 (cf h5 (cf h6 (ct h7 (ct h8 (rfl)))))))))) (fun h8 => o0.lf a (ct h1 (cf h2 (cf h3 (cf h4 (cf h5 (cf h6 (ct h7 (cf h8 (rfl))))))))))) (fun h7 => o0.lf a (ct h1 (cf h2 (cf h3 (cf h4 (cf h5 (cf h6 (cf h7 (rfl))))))))))))))) (fun h1 => br_ (fun h2 => br_ (fun h3 => o0.lf a (cf h1 (ct h2 (ct h3 (rfl))))) (fun h3 => br_ (fun h4 => o0.lf a (cf h1 (ct h2 (cf h3 (ct h4 (rfl)))))) (fun h4 => br_ (fun h5 => o0.lf a (cf h1 (ct h2 (cf h3 (cf h4 (ct h5 (rfl))))))) (fun h5 => br_ (fun h6 => o0.lf a (cf h1 (ct h2 (cf h3 (cf h4 (cf h5 (ct h6 (rfl)))))))) (fun h6 => br_ (fun h7 => o0.lf a (cf h1 (ct h2 (cf h3 (cf h4 (cf h5 (cf h6 (ct h7 (rfl))))))))) (fun h7 => o0.lf a (cf h1 (ct h2 (cf h3 (cf h4 (cf h5 (cf h6 (cf h7 (rfl)))))))))))))) (fun h2 => br_ (fun h3 => o0.lf a (cf h1 (cf h2 (ct h3 (rfl))))) (fun h3 => br_ (fun h4 => o0.lf a (cf h1 (cf h2 (cf h3 (ct h4 (rfl)))))) (fun h4 => br_ (fun h5 => o0.lf a (cf h1 (cf h2 (cf h3 (cf h4 (ct h5 (rfl))))))) (fun h5 => br_ (fun h6 => o0.lf a (cf h1 (cf h2 (cf h3 (cf h4 (cf h5 (ct h6 (rfl)))))))) (fun h6 => br_ (fun h7 => o0.lf a (cf h1 (cf h2 (cf h3 (cf h4 (cf h5 (cf h6 (ct h7 (rfl))))))))) (fun h7 => o0.lf a (cf h1 (cf h2 (cf h3 (cf h4 (cf h5 (cf h6 (cf h7 (rfl)))))))))))))))
def a3u (p : Nat -> Bool) : Nat -> Bool
 | 0 => true
 | n + 1 => a3u p n && p n
def a2n {p : Nat -> Bool} {i : Nat} (h : a3u p i = true) (hp : true = p i) : a3u p (i + 1) = true := by
 show (a3u p i && p i) = true
 rw [h, <- hp]; rfl
def a1r {p : Nat -> Bool} {i : Nat} : ∀ {n : Nat}, i < n -> false = p i -> a3u p n = false
 | n + 1, h, hp => by
  show (a3u p n && p n) = false; rcases F1.1 h with h | rfl
  ·rw [a1r h hp]; rfl
  ·rw [<- hp, O5]
def a1o (l k : Nat) (p : Nat -> Bool) : LH D := ⟨Nat, [k], fun i => [iv (i : Int)], fun i => i <= l /\ a3u p i = true, fun i => l - i, [], fun _ => [], [], fun _ => []⟩
def e9 {i n : Nat} (h : decide ((i : Int) < (n : Int)) = true) : i < n := by have := A6 h; omega
def a2x {l k : Nat} {p : Nat -> Bool} {i : Nat} (hI : (a1o l k p).inv i) (h : decide ((i : Int) < (l : Int)) = false) : a3u p l = true := by
 obtain ⟨h1, h2⟩ : i <= l /\ a3u p i = true := hI
 have := A9 h
 obtain rfl : i = l := by omega
 exact h2
def a8x {i n : Nat} (h : decide ((i : Int) < (n : Int)) = true) (hl : Nat.ble n d4 = true) : [SV.i (E := D) .i64 (wrap .i64 ((i : Int) + 1))] = [iv ((i + 1 : Nat) : Int)] := by
 rw [n4 (e9 h) (C2 hl)]
def a2a {i n : Nat} (h : decide ((i : Int) < (n : Int)) = true) : n - (i + 1) < n - i := by have := e9 h; omega
def ltD {i n : Nat} (h : decide ((i : Int) < (n : Int)) = true) : (decide (0 <= (i : Int)) && decide ((i : Int) < (n : Int))) = true := ltC (e9 h)
def ltW {i n : Nat} (h0 : decide (0 < (i : Int)) = true) (h : decide ((i : Int) < (n : Int)) = true) (hl : Nat.ble n d4 = true) : (decide (0 <= wrap .i64 ((i : Int) - 1)) && decide (wrap .i64 ((i : Int) - 1) < (n : Int))) = true := by
 have h1 := e9 h
 have h2 := A6 h0
 have h3 := C2 hl
 unfold d4 at h3
 rw [IntWalk.i64_in _ (by omega)]
 simp; omega
def b0l {l k : Nat} {p : Nat -> Bool} : Ent (a1o l k p) [SV.i .i64 0] [] [] := ⟨(0 : Nat), rfl, rfl, rfl, ⟨C0 _, rfl⟩⟩
abbrev Γbm : Nat -> Option (Con D) := i5 (i5 (i5 (i5 noC 214 o0) 132 a3t) 133 p0) 88 a6e
def Kbm : n3 EF Tp Γbm noO := (((K0.c f1h).c d6u).c d6t).c d6e
def b4m (a : HL D [.sl (.st 4), .st 7]) (i : Nat) : Bool :=
 bif (o0.ret (getD a.1 (Int.toNat (↑i : Int)) (Ty.dflt D (.st 4)), ())).1 != 0 then
 false
 else bif (getD a.1 (Int.toNat (↑i : Int)) (Ty.dflt D (.st 4))).group != a.2.1.group then
 false
 else bif (getD a.1 (Int.toNat (↑i : Int)) (Ty.dflt D (.st 4))).epoch != a.2.1.epoch then
 false
 else true
def f9i (a : HL D [.sl (.st 4), .st 7]) : HL D [.bool] :=
 bif decide (4 < (↑(length a.1) : Int)) then
 (false, ())
 else bif a3u (b4m a) (length a.1) then
 (true, ())
 else (false, ())
def a1s : Con D := { ts := [.sl (.st 4), .st 7], rt := [.bool], ret := f9i }
def f3t (a : HL D [.sl (.st 4), .st 7]) : Nat -> Nat -> Option (Hint D) := fun f r => match f, r with
 | 184, 4 => some (.inv (a1o a.1.length 5 (b4m a)))
 | _, _ => none
def f1i : a1s.ok Tp 184 := Con.proveH (c := a1s) EF ((Z0.side Kbm).skip) (H := f3t) (call := fun a => a0g EF ((Z0.side Kbm).skip) Γbm noO (f3t a) 4) (fun _ => m7 _ Kbm 4) fun (a : HL D a1s.ts) (_ : a1s.holds a) =>
 br_ (fun h1 : (Nat.ble (length a.1) d4) = true =>
 bq (decide (4 < (↑(length a.1) : Int))) (fun h2 => a1s.lf a (ct h2 (rfl))) (fun h2 => And.intro (b0l : Ent (a1o (length a.1) 5 (b4m a)) [SV.i IntKind.i64 (0 : Int)] [] []) (fun (i : Nat) (hI3 : (a1o (length a.1) 5 (b4m a)).inv i) =>
 br_ (fun h3 : (Nat.ble (length a.1) d4) = true =>
 bq (decide ((↑i : Int) < (↑(length a.1) : Int))) (fun h4 => bN (iX (↑i : Int) (↑(length a.1) : Int)) (by first | exact ltD (by assumption) | exact ltW (by assumption) (by assumption) (by assumption)) (
 bq ((o0.ret (getD a.1 (Int.toNat (↑i : Int)) (Ty.dflt D (.st 4)), ())).1 != 0) (fun h5 => a1s.lf a (cf h2 (cf (a1r (e9 h4) (ct h5 (rfl))) rfl))) (fun h5 => bN (iX (↑i : Int) (↑(length a.1) : Int)) (by first | exact ltD (by assumption) | exact ltW (by assumption) (by assumption) (by assumption)) (
 bq ((getD a.1 (Int.toNat (↑i : Int)) (Ty.dflt D (.st 4))).group != a.2.1.group) (fun h6 => a1s.lf a (cf h2 (cf (a1r (e9 h4) (cf h5 (ct h6 (rfl)))) rfl))) (fun h6 => bN (iX (↑i : Int) (↑(length a.1) : Int)) (by first | exact ltD (by assumption) | exact ltW (by assumption) (by assumption) (by assumption)) (
 bq ((getD a.1 (Int.toNat (↑i : Int)) (Ty.dflt D (.st 4))).epoch != a.2.1.epoch) (fun h7 => a1s.lf a (cf h2 (cf (a1r (e9 h4) (cf h5 (cf h6 (ct h7 (rfl))))) rfl))) (fun h7 => (⟨i + 1, a8x h4 (by assumption), rfl, rfl, ⟨e9 h4, a2n hI3.2 (cf h5 (cf h6 (cf h7 (rfl))))⟩, a2a h4⟩ : Rnd (a1o (length a.1) 5 (b4m a)) i [SV.i IntKind.i64 (wrap IntKind.i64 ((↑i : Int) + 1))] [] [])))))))) (fun h4 => a1s.lf a (cf h2 (ct (a2x hI3 h4) (rfl))))) (fun _ => trivial)))) (fun _ => trivial)
def b4n (a : HL D [.st 5]) (i : Nat) : Bool :=
 bif !(a3t.ret (getD a.1.nodes (Int.toNat (↑i : Int)) (Ty.dflt D .int), ())).1 then
 false
 else true
def f9j (a : HL D [.st 5]) : HL D [.bool] :=
 bif bif bif bif !(p0.ret (a.1.err, (0 : Int), (999 : Int), ())).1 then true else decide (16 < (↑(length a.1.data) : Int)) then true else !(p0.ret (a.1.epoch, (0 : Int), (1048576 : Int), ())).1 then true else decide (7 < (↑(length a.1.nodes) : Int)) then
 (false, ())
 else bif a3u (b4n a) (length a.1.nodes) then
 (true, ())
 else (false, ())
def a8p : Con D := { ts := [.st 5], rt := [.bool], ret := f9j }
def f3u (a : HL D [.st 5]) : Nat -> Nat -> Option (Hint D) := fun f r => match f, r with
 | 182, 4 => some (.inv (a1o a.1.nodes.length 3 (b4n a)))
 | _, _ => none
def f1j : a8p.ok Tp 182 := Con.proveH (c := a8p) EF ((Z0.side Kbm).skip) (H := f3u) (call := fun a => a0g EF ((Z0.side Kbm).skip) Γbm noO (f3u a) 4) (fun _ => m7 _ Kbm 4) fun (a : HL D a8p.ts) (_ : a8p.holds a) =>
 bq (bif bif bif !(p0.ret (a.1.err, (0 : Int), (999 : Int), ())).1 then true else decide (16 < (↑(length a.1.data) : Int)) then true else !(p0.ret (a.1.epoch, (0 : Int), (1048576 : Int), ())).1 then true else decide (7 < (↑(length a.1.nodes) : Int))) (fun h1 => a8p.lf a (ct h1 (rfl))) (fun h1 => And.intro (b0l : Ent (a1o (length a.1.nodes) 3 (b4n a)) [SV.i IntKind.i64 (0 : Int)] [] []) (fun (i : Nat) (hI2 : (a1o (length a.1.nodes) 3 (b4n a)).inv i) =>
 br_ (fun h2 : (Nat.ble (length a.1.nodes) d4) = true =>
 bq (decide ((↑i : Int) < (↑(length a.1.nodes) : Int))) (fun h3 => bN (iX (↑i : Int) (↑(length a.1.nodes) : Int)) (by first | exact ltD (by assumption) | exact ltW (by assumption) (by assumption) (by assumption)) (
 bq (!(a3t.ret (getD a.1.nodes (Int.toNat (↑i : Int)) (Ty.dflt D .int), ())).1) (fun h4 => a8p.lf a (cf h1 (cf (a1r (e9 h3) (ct h4 (rfl))) rfl))) (fun h4 => (⟨i + 1, a8x h3 (by assumption), rfl, rfl, ⟨e9 h3, a2n hI2.2 (cf h4 (rfl))⟩, a2a h3⟩ : Rnd (a1o (length a.1.nodes) 3 (b4n a)) i [SV.i IntKind.i64 (wrap IntKind.i64 ((↑i : Int) + 1))] [] [])))) (fun h3 => a8p.lf a (cf h1 (ct (a2x hI2 h3) (rfl))))) (fun _ => trivial)))
abbrev Γnm : Nat -> Option (Con D) := i5 Γbm 184 a1s
def Knm : n3 EF Tp Γnm noO := Kbm.c f1i
def b1i (a : HL D [.st 7]) (i : Nat) : Bool :=
 bif !(a6e.ret (getD a.1.changes (Int.toNat (↑i : Int)) (Ty.dflt D (.st 3)), ())).1 then
 false
 else bif (getD a.1.changes (Int.toNat (↑i : Int)) (Ty.dflt D (.st 3))).view != a.1.view then
 false
 else bif decide (0 < (↑i : Int)) then
 bif decide ((getD a.1.changes (Int.toNat (↑i : Int)) (Ty.dflt D (.st 3))).node <= (getD a.1.changes (Int.toNat (wrap IntKind.i64 ((↑i : Int) - 1))) (Ty.dflt D (.st 3))).node) then
 false
 else true
 else true
def a6w (a : HL D [.st 7]) (i : Nat) : Bool :=
 bif !(p0.ret ((getD a.1.picks (Int.toNat (↑i : Int)) (Ty.dflt D (.st 6))).seq, (1 : Int), (9007199254740991 : Int), ())).1 then
 false
 else bif decide (0 < (↑i : Int)) then
 bif wrap IntKind.i64 ((getD a.1.picks (Int.toNat (↑i : Int)) (Ty.dflt D (.st 6))).seq - 1) != (getD a.1.picks (Int.toNat (wrap IntKind.i64 ((↑i : Int) - 1))) (Ty.dflt D (.st 6))).seq then
 false
 else bif !(a1s.ret ((getD a.1.picks (Int.toNat (↑i : Int)) (Ty.dflt D (.st 6))).batch, a)).1 then
 false
 else bif decide ((getD a.1.picks (Int.toNat (↑i : Int)) (Ty.dflt D (.st 6))).dig = Dig.zero) then
 bif decide (0 < (↑(length (getD a.1.picks (Int.toNat (↑i : Int)) (Ty.dflt D (.st 6))).batch) : Int)) then
 false
 else true
 else true
 else bif !(a1s.ret ((getD a.1.picks (Int.toNat (↑i : Int)) (Ty.dflt D (.st 6))).batch, a)).1 then
 false
 else bif decide ((getD a.1.picks (Int.toNat (↑i : Int)) (Ty.dflt D (.st 6))).dig = Dig.zero) then
 bif decide (0 < (↑(length (getD a.1.picks (Int.toNat (↑i : Int)) (Ty.dflt D (.st 6))).batch) : Int)) then
 false
 else true
 else true
def f9k (a : HL D [.st 7]) : HL D [.bool] :=
 bif bif bif !(p0.ret ((↑(length a.1.changes) : Int), (1 : Int), (7 : Int), ())).1 then true else decide (8 < (↑(length a.1.picks) : Int)) then true else decide (a.1.view < 1) then
 (false, ())
 else bif a3u (b1i a) (length a.1.changes) then
 bif a3u (a6w a) (length a.1.picks) then
 (true, ())
 else (false, ())
 else (false, ())
def a2b : Con D := { ts := [.st 7], rt := [.bool], ret := f9k }
def f3v (a : HL D [.st 7]) : Nat -> Nat -> Option (Hint D) := fun f r => match f, r with
 | 185, 4 => some (.inv (a1o a.1.changes.length 3 (b1i a)))
 | 185, 9 => some (.inv (a1o a.1.picks.length 4 (a6w a)))
 | _, _ => none
def f1k : a2b.ok Tp 185 := Con.proveH (c := a2b) EF ((Z0.side Knm).skip) (H := f3v) (call := fun a => a0g EF ((Z0.side Knm).skip) Γnm noO (f3v a) 4) (fun _ => m7 _ Knm 4) fun (a : HL D a2b.ts) (_ : a2b.holds a) =>
 br_ (fun h1 : (Nat.ble (length a.1.changes) d4) = true =>
 bq (bif bif !(p0.ret ((↑(length a.1.changes) : Int), (1 : Int), (7 : Int), ())).1 then true else decide (8 < (↑(length a.1.picks) : Int)) then true else decide (a.1.view < 1)) (fun h2 => a2b.lf a (ct h2 (rfl))) (fun h2 => And.intro (b0l : Ent (a1o (length a.1.changes) 3 (b1i a)) [SV.i IntKind.i64 (0 : Int)] [] []) (fun (i : Nat) (hI3 : (a1o (length a.1.changes) 3 (b1i a)).inv i) =>
 br_ (fun h3 : (Nat.ble (length a.1.changes) d4) = true =>
 bq (decide ((↑i : Int) < (↑(length a.1.changes) : Int))) (fun h4 => bN (iX (↑i : Int) (↑(length a.1.changes) : Int)) (by first | exact ltD (by assumption) | exact ltW (by assumption) (by assumption) (by assumption)) (
 bq (!(a6e.ret (getD a.1.changes (Int.toNat (↑i : Int)) (Ty.dflt D (.st 3)), ())).1) (fun h5 => a2b.lf a (cf h2 (cf (a1r (e9 h4) (ct h5 (rfl))) rfl))) (fun h5 => bN (iX (↑i : Int) (↑(length a.1.changes) : Int)) (by first | exact ltD (by assumption) | exact ltW (by assumption) (by assumption) (by assumption)) (
 bq ((getD a.1.changes (Int.toNat (↑i : Int)) (Ty.dflt D (.st 3))).view != a.1.view) (fun h6 => a2b.lf a (cf h2 (cf (a1r (e9 h4) (cf h5 (ct h6 (rfl)))) rfl))) (fun h6 => bq (decide (0 < (↑i : Int))) (fun h7 => bN (iX (↑i : Int) (↑(length a.1.changes) : Int)) (by first | exact ltD (by assumption) | exact ltW (by assumption) (by assumption) (by assumption)) (
 bN (iX (wrap IntKind.i64 ((↑i : Int) - 1)) (↑(length a.1.changes) : Int)) (by first | exact ltD (by assumption) | exact ltW (by assumption) (by assumption) (by assumption)) (
 bq (decide ((getD a.1.changes (Int.toNat (↑i : Int)) (Ty.dflt D (.st 3))).node <= (getD a.1.changes (Int.toNat (wrap IntKind.i64 ((↑i : Int) - 1))) (Ty.dflt D (.st 3))).node)) (fun h8 => a2b.lf a (cf h2 (cf (a1r (e9 h4) (cf h5 (cf h6 (ct h7 (ct h8 (rfl)))))) rfl))) (fun h8 => (⟨i + 1, a8x h4 (by assumption), rfl, rfl, ⟨e9 h4, a2n hI3.2 (cf h5 (cf h6 (ct h7 (cf h8 (rfl)))))⟩, a2a h4⟩ : Rnd (a1o (length a.1.changes) 3 (b1i a)) i [SV.i IntKind.i64 (wrap IntKind.i64 ((↑i : Int) + 1))] [] []))))) (fun h7 => (⟨i + 1, a8x h4 (by assumption), rfl, rfl, ⟨e9 h4, a2n hI3.2 (cf h5 (cf h6 (cf h7 (rfl))))⟩, a2a h4⟩ : Rnd (a1o (length a.1.changes) 3 (b1i a)) i [SV.i IntKind.i64 (wrap IntKind.i64 ((↑i : Int) + 1))] [] []))))))) (fun h4 => And.intro (b0l : Ent (a1o (length a.1.picks) 4 (a6w a)) [SV.i IntKind.i64 (0 : Int)] [] []) (fun (i : Nat) (hI5 : (a1o (length a.1.picks) 4 (a6w a)).inv i) =>
 br_ (fun h5 : (Nat.ble (length a.1.picks) d4) = true =>
 bq (decide ((↑i : Int) < (↑(length a.1.picks) : Int))) (fun h6 => bN (iX (↑i : Int) (↑(length a.1.picks) : Int)) (by first | exact ltD (by assumption) | exact ltW (by assumption) (by assumption) (by assumption)) (
 bq (!(p0.ret ((getD a.1.picks (Int.toNat (↑i : Int)) (Ty.dflt D (.st 6))).seq, (1 : Int), (9007199254740991 : Int), ())).1) (fun h7 => a2b.lf a (cf h2 (ct (a2x hI3 h4) (cf (a1r (e9 h6) (ct h7 (rfl))) rfl)))) (fun h7 => bq (decide (0 < (↑i : Int))) (fun h8 => bN (iX (wrap IntKind.i64 ((↑i : Int) - 1)) (↑(length a.1.picks) : Int)) (by first | exact ltD (by assumption) | exact ltW (by assumption) (by assumption) (by assumption)) (
 bq (wrap IntKind.i64 ((getD a.1.picks (Int.toNat (↑i : Int)) (Ty.dflt D (.st 6))).seq - 1) != (getD a.1.picks (Int.toNat (wrap IntKind.i64 ((↑i : Int) - 1))) (Ty.dflt D (.st 6))).seq) (fun h9 => a2b.lf a (cf h2 (ct (a2x hI3 h4) (cf (a1r (e9 h6) (cf h7 (ct h8 (ct h9 (rfl))))) rfl)))) (fun h9 => bq (!(a1s.ret ((getD a.1.picks (Int.toNat (↑i : Int)) (Ty.dflt D (.st 6))).batch, a)).1) (fun h10 => a2b.lf a (cf h2 (ct (a2x hI3 h4) (cf (a1r (e9 h6) (cf h7 (ct h8 (cf h9 (ct h10 (rfl)))))) rfl)))) (fun h10 => bq (decide ((getD a.1.picks (Int.toNat (↑i : Int)) (Ty.dflt D (.st 6))).dig = Dig.zero)) (fun h11 => br_ (fun h12 : (Nat.ble (length (getD a.1.picks (Int.toNat (↑i : Int)) (Ty.dflt D (.st 6))).batch) d4) = true =>
 bq (decide (0 < (↑(length (getD a.1.picks (Int.toNat (↑i : Int)) (Ty.dflt D (.st 6))).batch) : Int))) (fun h13 => a2b.lf a (cf h2 (ct (a2x hI3 h4) (cf (a1r (e9 h6) (cf h7 (ct h8 (cf h9 (cf h10 (ct h11 (ct h13 (rfl)))))))) rfl)))) (fun h13 => (⟨i + 1, a8x h6 (by assumption), rfl, rfl, ⟨e9 h6, a2n hI5.2 (cf h7 (ct h8 (cf h9 (cf h10 (ct h11 (cf h13 (rfl)))))))⟩, a2a h6⟩ : Rnd (a1o (length a.1.picks) 4 (a6w a)) i [SV.i IntKind.i64 (wrap IntKind.i64 ((↑i : Int) + 1))] [] []))) (fun _ => trivial)) (fun h11 => (⟨i + 1, a8x h6 (by assumption), rfl, rfl, ⟨e9 h6, a2n hI5.2 (cf h7 (ct h8 (cf h9 (cf h10 (cf h11 (rfl))))))⟩, a2a h6⟩ : Rnd (a1o (length a.1.picks) 4 (a6w a)) i [SV.i IntKind.i64 (wrap IntKind.i64 ((↑i : Int) + 1))] [] [])))))) (fun h8 => bq (!(a1s.ret ((getD a.1.picks (Int.toNat (↑i : Int)) (Ty.dflt D (.st 6))).batch, a)).1) (fun h9 => a2b.lf a (cf h2 (ct (a2x hI3 h4) (cf (a1r (e9 h6) (cf h7 (cf h8 (ct h9 (rfl))))) rfl)))) (fun h9 => bq (decide ((getD a.1.picks (Int.toNat (↑i : Int)) (Ty.dflt D (.st 6))).dig = Dig.zero)) (fun h10 => br_ (fun h11 : (Nat.ble (length (getD a.1.picks (Int.toNat (↑i : Int)) (Ty.dflt D (.st 6))).batch) d4) = true =>
 bq (decide (0 < (↑(length (getD a.1.picks (Int.toNat (↑i : Int)) (Ty.dflt D (.st 6))).batch) : Int))) (fun h12 => a2b.lf a (cf h2 (ct (a2x hI3 h4) (cf (a1r (e9 h6) (cf h7 (cf h8 (cf h9 (ct h10 (ct h12 (rfl))))))) rfl)))) (fun h12 => (⟨i + 1, a8x h6 (by assumption), rfl, rfl, ⟨e9 h6, a2n hI5.2 (cf h7 (cf h8 (cf h9 (ct h10 (cf h12 (rfl))))))⟩, a2a h6⟩ : Rnd (a1o (length a.1.picks) 4 (a6w a)) i [SV.i IntKind.i64 (wrap IntKind.i64 ((↑i : Int) + 1))] [] []))) (fun _ => trivial)) (fun h10 => (⟨i + 1, a8x h6 (by assumption), rfl, rfl, ⟨e9 h6, a2n hI5.2 (cf h7 (cf h8 (cf h9 (cf h10 (rfl)))))⟩, a2a h6⟩ : Rnd (a1o (length a.1.picks) 4 (a6w a)) i [SV.i IntKind.i64 (wrap IntKind.i64 ((↑i : Int) + 1))] [] []))))))) (fun h6 => a2b.lf a (cf h2 (ct (a2x hI3 h4) (ct (a2x hI5 h6) (rfl)))))) (fun _ => trivial)))) (fun _ => trivial)))) (fun _ => trivial)
def f9l (a : HL D [.st 7]) : HL D [.bool] :=
 bif (↑(length a.1.batch) : Int) != 1 then
 (false, ())
 else bif !(a1s.ret (a.1.batch, a)).1 then
 (false, ())
 else bif (getD a.1.batch (Int.toNat (0 : Int)) (Ty.dflt D (.st 4))).client != a.1.sq then
 (false, ())
 else bif !(p0.ret (a.1.sq, (31 : Int), (34 : Int), ())).1 then
 (false, ())
 else bif a.1.kind == 1 then
 (true, ())
 else ((getD a.1.batch (Int.toNat (0 : Int)) (Ty.dflt D (.st 4))).kind == 1, ())
def a3v : Con D := { ts := [.st 7], rt := [.bool], ret := f9l }
def f1l : a3v.ok Tp 181 := Con.prove (c := a3v) EF ((Z0.side Knm).skip) Knm (H := H0) (n := 4) fun (a : HL D a3v.ts) (hp : a3v.holds a) =>
 br_ (fun h1 : (Nat.ble (length a.1.batch) d4) = true =>
 br_ (fun h2 => a3v.lf a (ct h2 (rfl))) (fun h2 => br_ (fun h3 => a3v.lf a (cf h2 (ct h3 (rfl)))) (fun h3 => bN (iX (0 : Int) (↑(length a.1.batch) : Int)) (by have h := Q3.1 h2; simp; omega) (
 br_ (fun h4 => a3v.lf a (cf h2 (cf h3 (ct h4 (rfl))))) (fun h4 => br_ (fun h5 => a3v.lf a (cf h2 (cf h3 (cf h4 (ct h5 (rfl)))))) (fun h5 => br_ (fun h6 => a3v.lf a (cf h2 (cf h3 (cf h4 (cf h5 (ct h6 (rfl))))))) (fun h6 => bN (iX (0 : Int) (↑(length a.1.batch) : Int)) (by have h := Q3.1 h2; simp; omega) (
 a3v.lf a (cf h2 (cf h3 (cf h4 (cf h5 (cf h6 (rfl)))))))))))))) (fun _ => trivial)
def f9m (a : HL D [.st 7]) : HL D [.st 7] :=
 bif a.1.kind == 1 then
 ({ kind := a.1.kind, sq := a.1.sq, group := a.1.group, epoch := a.1.epoch, view := 0, seq := 0, dig := { l := replicate 32 (0 : UInt8), h := Dig.zero._proof_1 }, batch := a.1.batch, answer := { err := 0, data := [], epoch := 0, nodes := [] }, stamp := 0, node := 0, change := { node := 0, view := 0, low := 0, mz := [], p := [], q := [] }, changes := [], picks := [], level := 0, place := 0, digests := [], data := [], nodes := [] }, ())
 else bif a.1.kind == 14 then
 ({ kind := a.1.kind, sq := a.1.sq, group := a.1.group, epoch := a.1.epoch, view := 0, seq := 0, dig := { l := replicate 32 (0 : UInt8), h := Dig.zero._proof_1 }, batch := a.1.batch, answer := { err := 0, data := [], epoch := 0, nodes := [] }, stamp := 0, node := 0, change := { node := 0, view := 0, low := 0, mz := [], p := [], q := [] }, changes := [], picks := [], level := 0, place := 0, digests := [], data := [], nodes := [] }, ())
 else bif a.1.kind == 2 then
 ({ kind := a.1.kind, sq := a.1.sq, group := a.1.group, epoch := a.1.epoch, view := 0, seq := 0, dig := { l := replicate 32 (0 : UInt8), h := Dig.zero._proof_1 }, batch := [], answer := a.1.answer, stamp := a.1.stamp, node := a.1.node, change := { node := 0, view := 0, low := 0, mz := [], p := [], q := [] }, changes := [], picks := [], level := 0, place := 0, digests := [], data := [], nodes := [] }, ())
 else bif a.1.kind == 3 then
 ({ kind := a.1.kind, sq := a.1.sq, group := a.1.group, epoch := a.1.epoch, view := a.1.view, seq := a.1.seq, dig := { l := replicate 32 (0 : UInt8), h := Dig.zero._proof_1 }, batch := a.1.batch, answer := { err := 0, data := [], epoch := 0, nodes := [] }, stamp := 0, node := 0, change := { node := 0, view := 0, low := 0, mz := [], p := [], q := [] }, changes := [], picks := [], level := 0, place := 0, digests := [], data := [], nodes := [] }, ())
 else bif a.1.kind == 4 then
 ({ kind := a.1.kind, sq := a.1.sq, group := a.1.group, epoch := a.1.epoch, view := a.1.view, seq := a.1.seq, dig := a.1.dig, batch := [], answer := { err := 0, data := [], epoch := 0, nodes := [] }, stamp := 0, node := 0, change := { node := 0, view := 0, low := 0, mz := [], p := [], q := [] }, changes := [], picks := [], level := 0, place := 0, digests := [], data := [], nodes := [] }, ())
 else bif a.1.kind == 5 then
 ({ kind := a.1.kind, sq := a.1.sq, group := a.1.group, epoch := a.1.epoch, view := a.1.view, seq := a.1.seq, dig := a.1.dig, batch := [], answer := { err := 0, data := [], epoch := 0, nodes := [] }, stamp := 0, node := 0, change := { node := 0, view := 0, low := 0, mz := [], p := [], q := [] }, changes := [], picks := [], level := 0, place := 0, digests := [], data := [], nodes := [] }, ())
 else bif a.1.kind == 6 then
 ({ kind := a.1.kind, sq := a.1.sq, group := a.1.group, epoch := a.1.epoch, view := 0, seq := a.1.seq, dig := a.1.dig, batch := [], answer := { err := 0, data := [], epoch := 0, nodes := [] }, stamp := 0, node := 0, change := { node := 0, view := 0, low := 0, mz := [], p := [], q := [] }, changes := [], picks := [], level := 0, place := 0, digests := [], data := [], nodes := [] }, ())
 else bif a.1.kind == 13 then
 ({ kind := a.1.kind, sq := a.1.sq, group := a.1.group, epoch := a.1.epoch, view := 0, seq := a.1.seq, dig := a.1.dig, batch := [], answer := { err := 0, data := [], epoch := 0, nodes := [] }, stamp := 0, node := 0, change := { node := 0, view := 0, low := 0, mz := [], p := [], q := [] }, changes := [], picks := [], level := 0, place := 0, digests := [], data := [], nodes := [] }, ())
 else bif a.1.kind == 7 then
 ({ kind := a.1.kind, sq := a.1.sq, group := a.1.group, epoch := a.1.epoch, view := 0, seq := 0, dig := { l := replicate 32 (0 : UInt8), h := Dig.zero._proof_1 }, batch := [], answer := { err := 0, data := [], epoch := 0, nodes := [] }, stamp := 0, node := 0, change := a.1.change, changes := [], picks := [], level := 0, place := 0, digests := [], data := [], nodes := [] }, ())
 else bif a.1.kind == 8 then
 ({ kind := a.1.kind, sq := a.1.sq, group := a.1.group, epoch := a.1.epoch, view := a.1.view, seq := 0, dig := a.1.dig, batch := [], answer := { err := 0, data := [], epoch := 0, nodes := [] }, stamp := 0, node := a.1.node, change := { node := 0, view := 0, low := 0, mz := [], p := [], q := [] }, changes := [], picks := [], level := 0, place := 0, digests := [], data := [], nodes := [] }, ())
 else bif a.1.kind == 9 then
 ({ kind := a.1.kind, sq := a.1.sq, group := a.1.group, epoch := a.1.epoch, view := a.1.view, seq := 0, dig := { l := replicate 32 (0 : UInt8), h := Dig.zero._proof_1 }, batch := [], answer := { err := 0, data := [], epoch := 0, nodes := [] }, stamp := 0, node := 0, change := { node := 0, view := 0, low := 0, mz := [], p := [], q := [] }, changes := a.1.changes, picks := a.1.picks, level := 0, place := 0, digests := [], data := [], nodes := [] }, ())
 else bif a.1.kind == 10 then
 bif a.1.kind == 11 then
 ({ kind := a.1.kind, sq := a.1.sq, group := a.1.group, epoch := a.1.epoch, view := 0, seq := a.1.seq, dig := a.1.dig, batch := [], answer := { err := 0, data := [], epoch := 0, nodes := [] }, stamp := 0, node := 0, change := { node := 0, view := 0, low := 0, mz := [], p := [], q := [] }, changes := [], picks := [], level := a.1.level, place := a.1.place, digests := a.1.digests, data := a.1.data, nodes := [] }, ())
 else ({ kind := a.1.kind, sq := a.1.sq, group := a.1.group, epoch := a.1.epoch, view := 0, seq := a.1.seq, dig := a.1.dig, batch := [], answer := { err := 0, data := [], epoch := 0, nodes := [] }, stamp := 0, node := 0, change := { node := 0, view := 0, low := 0, mz := [], p := [], q := [] }, changes := [], picks := [], level := a.1.level, place := a.1.place, digests := [], data := [], nodes := [] }, ())
 else bif a.1.kind == 11 then
 bif a.1.kind == 11 then
 ({ kind := a.1.kind, sq := a.1.sq, group := a.1.group, epoch := a.1.epoch, view := 0, seq := a.1.seq, dig := a.1.dig, batch := [], answer := { err := 0, data := [], epoch := 0, nodes := [] }, stamp := 0, node := 0, change := { node := 0, view := 0, low := 0, mz := [], p := [], q := [] }, changes := [], picks := [], level := a.1.level, place := a.1.place, digests := a.1.digests, data := a.1.data, nodes := [] }, ())
 else ({ kind := a.1.kind, sq := a.1.sq, group := a.1.group, epoch := a.1.epoch, view := 0, seq := a.1.seq, dig := a.1.dig, batch := [], answer := { err := 0, data := [], epoch := 0, nodes := [] }, stamp := 0, node := 0, change := { node := 0, view := 0, low := 0, mz := [], p := [], q := [] }, changes := [], picks := [], level := a.1.level, place := a.1.place, digests := [], data := [], nodes := [] }, ())
 else bif a.1.kind == 12 then
 ({ kind := a.1.kind, sq := a.1.sq, group := a.1.group, epoch := a.1.epoch, view := 0, seq := 0, dig := { l := replicate 32 (0 : UInt8), h := Dig.zero._proof_1 }, batch := [], answer := { err := 0, data := [], epoch := 0, nodes := [] }, stamp := 0, node := 0, change := { node := 0, view := 0, low := 0, mz := [], p := [], q := [] }, changes := [], picks := [], level := 0, place := 0, digests := [], data := [], nodes := a.1.nodes }, ())
 else bif a.1.kind == 15 then
 ({ kind := a.1.kind, sq := a.1.sq, group := a.1.group, epoch := a.1.epoch, view := 0, seq := a.1.seq, dig := { l := replicate 32 (0 : UInt8), h := Dig.zero._proof_1 }, batch := a.1.batch, answer := { err := 0, data := [], epoch := 0, nodes := [] }, stamp := 0, node := 0, change := { node := 0, view := 0, low := 0, mz := [], p := [], q := [] }, changes := [], picks := [], level := 0, place := 0, digests := [], data := [], nodes := [] }, ())
 else bif a.1.kind == 16 then
 ({ kind := a.1.kind, sq := a.1.sq, group := a.1.group, epoch := a.1.epoch, view := 0, seq := 0, dig := { l := replicate 32 (0 : UInt8), h := Dig.zero._proof_1 }, batch := a.1.batch, answer := { err := 0, data := [], epoch := 0, nodes := [] }, stamp := 0, node := 0, change := { node := 0, view := 0, low := 0, mz := [], p := [], q := [] }, changes := [], picks := [], level := 0, place := 0, digests := [], data := [], nodes := [] }, ())
 else ({ kind := a.1.kind, sq := a.1.sq, group := a.1.group, epoch := a.1.epoch, view := 0, seq := 0, dig := { l := replicate 32 (0 : UInt8), h := Dig.zero._proof_1 }, batch := [], answer := { err := 0, data := [], epoch := 0, nodes := [] }, stamp := 0, node := 0, change := { node := 0, view := 0, low := 0, mz := [], p := [], q := [] }, changes := [], picks := [], level := 0, place := 0, digests := [], data := [], nodes := [] }, ())
def a0e : Con D := { ts := [.st 7], rt := [.st 7], ret := f9m }
def f1m : a0e.ok Tp 146 := Con.prove (c := a0e) EF ((Z0.side K0).skip) K0 (H := H0) (n := 4) fun (a : HL D a0e.ts) (hp : a0e.holds a) =>
 br_ (fun h1 => a0e.lf a (ct h1 (rfl))) (fun h1 => br_ (fun h2 => a0e.lf a (cf h1 (ct h2 (rfl)))) (fun h2 => br_ (fun h3 => a0e.lf a (cf h1 (cf h2 (ct h3 (rfl))))) (fun h3 => br_ (fun h4 => a0e.lf a (cf h1 (cf h2 (cf h3 (ct h4 (rfl)))))) (fun h4 => br_ (fun h5 => a0e.lf a (cf h1 (cf h2 (cf h3 (cf h4 (ct h5 (rfl))))))) (fun h5 => br_ (fun h6 => a0e.lf a (cf h1 (cf h2 (cf h3 (cf h4 (cf h5 (ct h6 (rfl)))))))) (fun h6 => br_ (fun h7 => a0e.lf a (cf h1 (cf h2 (cf h3 (cf h4 (cf h5 (cf h6 (ct h7 (rfl))))))))) (fun h7 => br_ (fun h8 => a0e.lf a (cf h1 (cf h2 (cf h3 (cf h4 (cf h5 (cf h6 (cf h7 (ct h8 (rfl)))))))))) (fun h8 => br_ (fun h9 => a0e.lf a (cf h1 (cf h2 (cf h3 (cf h4 (cf h5 (cf h6 (cf h7 (cf h8 (ct h9 (rfl))))))))))) (fun h9 => br_ (fun h10 => a0e.lf a (cf h1 (cf h2 (cf h3 (cf h4 (cf h5 (cf h6 (cf h7 (cf h8 (cf h9 (ct h10 (rfl)))))))))))) (fun h10 => br_ (fun h11 => a0e.lf a (cf h1 (cf h2 (cf h3 (cf h4 (cf h5 (cf h6 (cf h7 (cf h8 (cf h9 (cf h10 (ct h11 (rfl))))))))))))) (fun h11 => br_ (fun h12 => br_ (fun h13 => a0e.lf a (cf h1 (cf h2 (cf h3 (cf h4 (cf h5 (cf h6 (cf h7 (cf h8 (cf h9 (cf h10 (cf h11 (ct h12 (ct h13 (rfl))))))))))))))) (fun h13 => a0e.lf a (cf h1 (cf h2 (cf h3 (cf h4 (cf h5 (cf h6 (cf h7 (cf h8 (cf h9 (cf h10 (cf h11 (ct h12 (cf h13 (rfl)))))))))))))))) (fun h12 => br_ (fun h13 => br_ (fun h14 => a0e.lf a (cf h1 (cf h2 (cf h3 (cf h4 (cf h5 (cf h6 (cf h7 (cf h8 (cf h9 (cf h10 (cf h11 (cf h12 (ct h13 (ct h14 (rfl)))))))))))))))) (fun h14 => a0e.lf a (cf h1 (cf h2 (cf h3 (cf h4 (cf h5 (cf h6 (cf h7 (cf h8 (cf h9 (cf h10 (cf h11 (cf h12 (ct h13 (cf h14 (rfl))))))))))))))))) (fun h13 => br_ (fun h14 => a0e.lf a (cf h1 (cf h2 (cf h3 (cf h4 (cf h5 (cf h6 (cf h7 (cf h8 (cf h9 (cf h10 (cf h11 (cf h12 (cf h13 (ct h14 (rfl)))))))))))))))) (fun h14 => br_ (fun h15 => a0e.lf a (cf h1 (cf h2 (cf h3 (cf h4 (cf h5 (cf h6 (cf h7 (cf h8 (cf h9 (cf h10 (cf h11 (cf h12 (cf h13 (cf h14 (ct h15 (rfl))))))))))))))))) (fun h15 => br_ (fun h16 => a0e.lf a (cf h1 (cf h2 (cf h3 (cf h4 (cf h5 (cf h6 (cf h7 (cf h8 (cf h9 (cf h10 (cf h11 (cf h12 (cf h13 (cf h14 (cf h15 (ct h16 (rfl)))))))))))))))))) (fun h16 => a0e.lf a (cf h1 (cf h2 (cf h3 (cf h4 (cf h5 (cf h6 (cf h7 (cf h8 (cf h9 (cf h10 (cf h11 (cf h12 (cf h13 (cf h14 (cf h15 (cf h16 (rfl)))))))))))))))))))))))))))))))))
abbrev Γft : Nat -> Option (Con D) := i5 (i5 (i5 (i5 (i5 Γnm 185 a2b) 181 a3v) 182 a8p) 186 b4l) 183 a4r
def Kft : n3 EF Tp Γft noO := ((((Knm.c f1k).c f1l).c f1j).c g5q).c f1f
def f9n (a : HL D [.st 7]) : HL D [.bool] :=
 bif a.1.kind == 1 then
 a3v.ret (a.1, ())
 else bif a.1.kind == 14 then
 a3v.ret (a.1, ())
 else bif a.1.kind == 2 then
 (bif bif (p0.ret (a.1.node, (31 : Int), (34 : Int), ())).1 then (p0.ret (a.1.stamp, (0 : Int), (9007199254740991 : Int), ())).1 else false then (a8p.ret (a.1.answer, ())).1 else false, ())
 else bif a.1.kind == 3 then
 (bif bif (a4r.ret (a.1.view, ())).1 then (p0.ret (a.1.seq, (1 : Int), (9007199254740991 : Int), ())).1 else false then (a1s.ret (a.1.batch, a)).1 else false, ())
 else bif a.1.kind == 4 then
 (bif (a4r.ret (a.1.view, ())).1 then (p0.ret (a.1.seq, (1 : Int), (9007199254740991 : Int), ())).1 else false, ())
 else bif a.1.kind == 5 then
 (bif (a4r.ret (a.1.view, ())).1 then (p0.ret (a.1.seq, (1 : Int), (9007199254740991 : Int), ())).1 else false, ())
 else bif a.1.kind == 6 then
 ((p0.ret (a.1.seq, (1 : Int), (9007199254740991 : Int), ())).1, ())
 else bif a.1.kind == 13 then
 ((p0.ret (a.1.seq, (1 : Int), (9007199254740991 : Int), ())).1, ())
 else bif a.1.kind == 7 then
 (bif (a6e.ret (a.1.change, ())).1 then a.1.change.node == a.1.sq else false, ())
 else bif a.1.kind == 8 then
 (bif bif bif (a4r.ret (a.1.view, ())).1 then decide (0 < a.1.view) else false then (a3t.ret (a.1.node, ())).1 else false then a.1.node != a.1.sq else false, ())
 else bif a.1.kind == 9 then
 a2b.ret (a.1, ())
 else bif a.1.kind == 10 then
 (bif bif bif bif (p0.ret (a.1.seq, (1 : Int), (9007199254740991 : Int), ())).1 then (p0.ret (a.1.level, (0 : Int), (9 : Int), ())).1 else false then (p0.ret (a.1.place, (0 : Int), (999 : Int), ())).1 else false then decide ((↑(length a.1.digests) : Int) <= 8) else false then decide ((↑(length a.1.data) : Int) <= 1024) else false, ())
 else bif a.1.kind == 11 then
 (bif bif bif bif (p0.ret (a.1.seq, (1 : Int), (9007199254740991 : Int), ())).1 then (p0.ret (a.1.level, (0 : Int), (9 : Int), ())).1 else false then (p0.ret (a.1.place, (0 : Int), (999 : Int), ())).1 else false then decide ((↑(length a.1.digests) : Int) <= 8) else false then decide ((↑(length a.1.data) : Int) <= 1024) else false, ())
 else bif a.1.kind == 12 then
 ((b4l.ret (a.1.nodes, ())).1, ())
 else bif a.1.kind == 16 then
 a1s.ret (a.1.batch, a.1, ())
 else (bif (p0.ret (a.1.seq, (1 : Int), (9007199254740991 : Int), ())).1 then (a1s.ret (a.1.batch, a)).1 else false, ())
def a0l : Con D := { ts := [.st 7], rt := [.bool], ret := f9n }
def f1n : a0l.ok Tp 145 := Con.prove (c := a0l) EF ((Z0.side Kft).skip) Kft (H := H0) (n := 4) fun (a : HL D a0l.ts) (hp : a0l.holds a) =>
 br_ (fun h1 => a0l.lf a (ct h1 (rfl))) (fun h1 => br_ (fun h2 => a0l.lf a (cf h1 (ct h2 (rfl)))) (fun h2 => br_ (fun h3 => a0l.lf a (cf h1 (cf h2 (ct h3 (rfl))))) (fun h3 => br_ (fun h4 => a0l.lf a (cf h1 (cf h2 (cf h3 (ct h4 (rfl)))))) (fun h4 => br_ (fun h5 => a0l.lf a (cf h1 (cf h2 (cf h3 (cf h4 (ct h5 (rfl))))))) (fun h5 => br_ (fun h6 => a0l.lf a (cf h1 (cf h2 (cf h3 (cf h4 (cf h5 (ct h6 (rfl)))))))) (fun h6 => br_ (fun h7 => a0l.lf a (cf h1 (cf h2 (cf h3 (cf h4 (cf h5 (cf h6 (ct h7 (rfl))))))))) (fun h7 => br_ (fun h8 => a0l.lf a (cf h1 (cf h2 (cf h3 (cf h4 (cf h5 (cf h6 (cf h7 (ct h8 (rfl)))))))))) (fun h8 => br_ (fun h9 => a0l.lf a (cf h1 (cf h2 (cf h3 (cf h4 (cf h5 (cf h6 (cf h7 (cf h8 (ct h9 (rfl))))))))))) (fun h9 => br_ (fun h10 => a0l.lf a (cf h1 (cf h2 (cf h3 (cf h4 (cf h5 (cf h6 (cf h7 (cf h8 (cf h9 (ct h10 (rfl)))))))))))) (fun h10 => br_ (fun h11 => a0l.lf a (cf h1 (cf h2 (cf h3 (cf h4 (cf h5 (cf h6 (cf h7 (cf h8 (cf h9 (cf h10 (ct h11 (rfl))))))))))))) (fun h11 => br_ (fun h12 => a0l.lf a (cf h1 (cf h2 (cf h3 (cf h4 (cf h5 (cf h6 (cf h7 (cf h8 (cf h9 (cf h10 (cf h11 (ct h12 (rfl)))))))))))))) (fun h12 => br_ (fun h13 => a0l.lf a (cf h1 (cf h2 (cf h3 (cf h4 (cf h5 (cf h6 (cf h7 (cf h8 (cf h9 (cf h10 (cf h11 (cf h12 (ct h13 (rfl))))))))))))))) (fun h13 => br_ (fun h14 => a0l.lf a (cf h1 (cf h2 (cf h3 (cf h4 (cf h5 (cf h6 (cf h7 (cf h8 (cf h9 (cf h10 (cf h11 (cf h12 (cf h13 (ct h14 (rfl)))))))))))))))) (fun h14 => br_ (fun h15 => a0l.lf a (cf h1 (cf h2 (cf h3 (cf h4 (cf h5 (cf h6 (cf h7 (cf h8 (cf h9 (cf h10 (cf h11 (cf h12 (cf h13 (cf h14 (ct h15 (rfl))))))))))))))))) (fun h15 => a0l.lf a (cf h1 (cf h2 (cf h3 (cf h4 (cf h5 (cf h6 (cf h7 (cf h8 (cf h9 (cf h10 (cf h11 (cf h12 (cf h13 (cf h14 (cf h15 (rfl)))))))))))))))))))))))))))))))
abbrev Γrk : Nat -> Option (Con D) := i5 (i5 (i5 (i5 (i5 noC 145 a0l) 146 a0e) 70 c0n) 133 p0) 132 a3t
def Krk : n3 EF Tp Γrk noO := ((((K0.c f1n).c f1m).c e4i).c d6t).c d6u
def d3h (a : HL D [.st 7]) : HL D [.int] :=
 bif bif bif !(p0.ret (a.1.kind, (1 : Int), (16 : Int), ())).1 then true else !(p0.ret (a.1.group, (0 : Int), (2 : Int), ())).1 then true else !(p0.ret (a.1.epoch, (0 : Int), (1048576 : Int), ())).1 then
 ((2 : Int), ())
 else bif bif bif a.1.kind != 1 then a.1.kind != 14 else false then !(a3t.ret (a.1.sq, ())).1 else false then
 ((2 : Int), ())
 else bif !(a0l.ret a).1 then
 ((2 : Int), ())
 else bif !(c0n.ret ((a0e.ret a).1, a)).1 then
 ((2 : Int), ())
 else ((0 : Int), ())
def a0o : Con D := { ts := [.st 7], rt := [.int], ret := d3h }
def f1o : a0o.ok Tp 104 := Con.prove (c := a0o) EF ((Z0.side Krk).skip) Krk (H := H0) (n := 4) fun (a : HL D a0o.ts) (hp : a0o.holds a) =>
 br_ (fun h1 => a0o.lf a (ct h1 (rfl))) (fun h1 => br_ (fun h2 => a0o.lf a (cf h1 (ct h2 (rfl)))) (fun h2 => br_ (fun h3 => a0o.lf a (cf h1 (cf h2 (ct h3 (rfl))))) (fun h3 => br_ (fun h4 => a0o.lf a (cf h1 (cf h2 (cf h3 (ct h4 (rfl)))))) (fun h4 => a0o.lf a (cf h1 (cf h2 (cf h3 (cf h4 (rfl)))))))))
def c6z {lo x hi : Int} : (p0.ret (x, lo, hi, ())).1 = decide (lo <= x /\ x <= hi) := rgI
def f1p {x : Int} : (a4r.ret (x, ())).1 = decide (0 <= x /\ x <= 1048576) := rgI
def d6v {x : Int} : (a3t.ret (x, ())).1 = decide (1 <= x /\ x <= 28) := rgI
def f1q {α : Type} [DecidableEq α] (a b : α) : dq a b = dq b a := by
 unfold dq; exact V4.2 ⟨Eq.symm, Eq.symm⟩
def e6m {n : d7} {o : d7} {f : Bool} (hk : 1 <= n.kind /\ n.kind <= 16) (h1 : n.kind ≠ 1) (h14 : n.kind ≠ 14) (e1 : (a0e.ret (n, ())).1 = o) (e2 : (a0l.ret (n, ())).1 = f) :
  a0o.ret (n, ()) = (bif decide ((0 <= n.group /\ n.group <= 2) /\ (0 <= n.epoch /\ n.epoch <= 1048576) /\ (1 <= n.sq /\ n.sq <= 28)) && f && dq n o then 0 else 2, ()) := by
 show d3h (n, ()) = _
 unfold d3h
 rw [c6z, c6z, c6z, d6v, e1, e2, show (c0n.ret (o, n, ())).1 = dq o n from rfl, f1q o n]
 have k1 : (n.kind != 1) = true := by simpa using h1
 have k14 : (n.kind != 14) = true := by simpa using h14
 simp only [hk, k1, k14, O2, B5, S3, B8, Cj]
 by_cases g : 0 <= n.group /\ n.group <= 2 <;> by_cases e : 0 <= n.epoch /\ n.epoch <= 1048576 <;> by_cases s : 1 <= n.sq /\ n.sq <= 28 <;> cases f <;> cases dq n o <;> simp [g, e, s]
def b8k {n : d7} : hdN n ↔ (0 <= n.group /\ n.group <= 2) /\ (0 <= n.epoch /\ n.epoch <= 1048576) /\ (1 <= n.sq /\ n.sq <= 28) := ⟨fun h => ⟨h.g, h.e, h.s⟩, fun h => ⟨h.1, h.2.1, h.2.2⟩⟩
open Classical in
def rk7 {n : d7} (h : n.kind = 7) : a0o.ret (n, ()) = (bif b1p n then 0 else 2, ()) := by
 have hq : ((n, ()) : HL D [.st 7]) = shK n := b6b h
 rw [e6m (o := c2j n) (f := bif j8 n.change then n.change.node == n.sq else false) (by omega) (by omega) (by omega) (by rw [hq]; rfl) (by rw [hq]; rfl)]
 unfold b1p c4i a9e
 rw [h, show ((7 : Int) == 8) = false from rfl, B8]
 congr 3
 by_cases h1 : hdN n
 ·have h2 := b8k.1 h1; rw [F6 h2]; cases j8 n.change <;> by_cases h4 : n.change.node = n.sq <;> simp [h1, h4]
 ·have h2 := h1; rw [b8k] at h2; rw [E5 h2]; simp [h1]
open Classical in
def rk8 {n : d7} (h : n.kind = 8) : a0o.ret (n, ()) = (bif b1p n then 0 else 2, ()) := by
 have hq : ((n, ()) : HL D [.st 7]) = a5e n := b1h h
 rw [e6m (o := b7q n) (f := bif bif bif (a4r.ret (n.view, ())).1 then decide (0 < n.view) else false then (a3t.ret (n.node, ())).1 else false then n.node != n.sq else false) (by omega) (by omega) (by omega) (by rw [hq]; rfl) (by rw [hq]; rfl)]
 unfold b1p d0o b2w
 rw [h, show ((8 : Int) == 8) = true from rfl, B5, f1p, d6v]
 congr 3
 by_cases h1 : hdN n
 ·have := b8k.1 h1; simp only [this, Cj, O2, T4, h1, Z9]; by_cases h2 : 1 <= n.view /\ n.view <= 1048576
  ·have : (0 <= n.view /\ n.view <= 1048576) := by omega
   have : 0 < n.view := by omega
   by_cases h3 : 1 <= n.node /\ n.node <= 28 <;> by_cases h4 : n.node = n.sq <;> simp [*]
  ·by_cases h5 : 0 <= n.view /\ n.view <= 1048576
   ·have h6 : ¬ (0 < n.view) := by omega
    have h7 : ¬ (1 <= n.view) := by omega
    simp [h5, h6, h7]
   ·simp [*]
 ·have h2 := h1; rw [b8k] at h2; rw [E5 h2]; simp [h1]
def f1r {n : d7} (h : n.kind = 7 ∨ n.kind = 8) : a0o.ret (n, ()) = (bif b1p n then 0 else 2, ()) := h.elim rk7 rk8
abbrev Γkg : Nat -> Option (Con D) := i5 (i5 (i5 (i5 (i5 (i5 (i5 (i5 (i5 (i5 noC 40 a7q) 46 a7c) 59 u9) 60 b1x) 95 b3v) 96 b3w) 83 a9c) 43 a3r) 39 d3g) 92 a6s
abbrev f9o : Nat -> Option (i8 D) := u6 (u6 noO 50 b2o) 21 c0j
def f9p : n3 EF Tp Γkg f9o := (((((((((((K0.c d2m).c c5z).c a9v).c d2n).c e3y).c e3z).c g5f).c b8f).c g5m).c e4r).o e3x).o f2u
def Zkg : ZF Tp D := (Z0.side f9p).skip
abbrev kIg (k : KD) (c : b8) : KD := (k.1, (bif j8 c then wrap .i64 (k.2.1.1 + 1) else k.2.1.1, ()), k.2.2.1, k.2.2.2.1, (bif j8 c then bkS (d9 c) (kSn k) else kSn k), (bif j8 c then bkM (d9 c) (kSn k) (kMo k) else kMo k), ())
abbrev dgW (c : b8) : u5 := bif j8 c then dgS c else c9q
abbrev dgG (k : KD) (c : b8) : (u5 × Bool × Unit) × KD := ((dgW c, j8 c, ()), kIg k c)
def c1e : i8 D := { ash := [.nm 0, .dat (.st 3)], es := KS, rsh := [.dat (.st 8), .dat .bool], pes := KS, post := fun a k => dgG k a.1 }
abbrev f1s : Nat -> Option (i8 D) := u6 (u6 f9o 42 c1e) 41 a5c
end
end Go.Proofs.YtpbcabanpppfoaaGreat
