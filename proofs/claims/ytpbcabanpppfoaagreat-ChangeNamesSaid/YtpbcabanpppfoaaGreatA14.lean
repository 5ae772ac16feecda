/- A part of the proof. No condition. -/
import Derived.Test.YtpbcabanpppfoaaGreatA13
set_option linter.all false
namespace Go.Proofs.YtpbcabanpppfoaaGreat
open Go Go.Gx Go.Vz
open Go.IntKind (wrap)
open List (flatMap getD length take replicate)
set_option maxRecDepth 100000
noncomputable section
def a5i {c : b8} (h : j8 c = true) : okC c := by
 obtain ⟨h1, h2, h3⟩ := a1t h
 have := h1.l; have := a8k h2; have := a8l h3
 exact ⟨by omega, by omega, by omega⟩
def d6w {c : b8} (h : j8 c = true) : (d9 c).length <= 6000 := by
 obtain ⟨h1, h2, h3⟩ := a1t h
 have q := m9 (f := d5) (k := 3) (i := c.q.length) z7 (b0j (c := c) (by have := h1.l; omega) (a8k h2)) (a8l h3)
 rw [D1, d6q] at q
 exact D5 q (by decide)
def d6x {c : b8} (h : j8 c = true) : dgW c = dgS c := by unfold dgW; rw [h]; rfl
def g5r {k : KD} {c : b8} (h : j8 c = false) : kIg k c = k := by unfold kIg; rw [h]; rfl
def f9q {k : KD} (h : okK k) (c : b8) : okK (kIg k c) := ⟨h.nodes, h.s1, h.s2, h.len, h.ch⟩
def f9r : c1e.ok EF Tp 42 := i8.proveH (c := c1e) EF Zkg (H := fun _ _ _ _ => none) (call := fun _ _ => a4n EF Zkg Λh Γkg f9o (fun _ _ => none) 3) (fun _ _ => a1b Lh f9p 3) fun (a : CL D c1e.ash) (k : KD) (_ : c1e.holds a k) =>
 bq ((a9c.ret a).2.1 != 0) (fun h1 => (by
  have hm : j8 a.1 = false := by
   have h1 : ((bif j8 a.1 then (d9 a.1, (0 : Int), ()) else ([], 2, ()) : HL D [.sl .u8, .int]).2.1 != 0) = true := h1; cases h : j8 a.1 with
   | false => rfl
   | true => rw [h] at h1; exact absurd (show ((0 : Int) != 0) = true from h1) (by decide)
  show some ((c9q, false, ()), k) = some ((dgW a.1, j8 a.1, ()), kIg k a.1); rw [g5r hm, hm]; unfold dgW; rw [hm]; rfl : some ((c9q, false, ()), k) = some (c1e.post a k))) (fun h1 =>
 have hm : j8 a.1 = true := by
  have h1 : ((bif j8 a.1 then (d9 a.1, (0 : Int), ()) else ([], 2, ()) : HL D [.sl .u8, .int]).2.1 != 0) = false := h1; cases h : j8 a.1 with
  | true => rfl
  | false => rw [h] at h1; exact absurd (show ((2 : Int) != 0) = false from h1) (by decide)
 have hb : (a9c.ret a).1 = d9 a.1 := by
  show (bif j8 a.1 then (d9 a.1, (0 : Int), ()) else ([], 2, ()) : HL D [.sl .u8, .int]).1 = _; rw [hm]; rfl
 have hc := a5i hm
 pQ ((a9c.ret a).1.length <= 65536) (by rw [hb]; have := d6w hm; omega) (
 pQ (a.1.mz.length <= 1000000) hc.1 (
 pQ (a.1.p.length <= 1000000) hc.2.1 (
 pQ (a.1.q.length <= 1000000) hc.2.2 (
 (by
  rw [hb]; show some (((⟨a.1, a4d (d9 a.1)⟩ : u5), true, ()), a1m k (d9 a.1)) = some ((dgW a.1, j8 a.1, ()), kIg k a.1); rw [d6x hm, hm]; unfold kIg; rw [hm]; rfl : some (((⟨a.1, a4d (a9c.ret a).1⟩ : u5), true, ()), a1m k (a9c.ret a).1) = some (c1e.post a k)))))))
def f9s : n3 EF Tp Γkg f1s := (f9p.o f9r).o c9s
abbrev d6y (H : Nat -> Nat -> Option (Hint D)) (n : Nat) : j7 D := b9v 53 94 (a4n EF Zkg Λh Γkg f1s H n)
def c1f (H : Nat -> Nat -> Option (Hint D)) (n : Nat) : j5 Tp (d6y H n) := a9s a9t (a1b Lh f9s n)
def c7a (k : KD) (c : b8) : (Bool × Unit) × KD := bif !b5w (kCr k) c.node then ((false, ()), k) else bif !j8 c then ((false, ()), kIg k c) else ((a9a k c, ()), kIg k c)
def a4h : i8 D := { ash := [.nm 0, .dat (.st 3)], es := KS, rsh := [.dat .bool], pes := KS, pre := some (fun _ k => okK k), post := fun a k => c7a k a.1 }
def f9t : a4h.ok EF Tp 20 := i8.proveH (c := a4h) EF Zkg (H := fun _ _ _ _ => none) (call := fun _ _ => d6y (fun _ _ => none) 3) (fun _ _ => c1f _ 3) fun (a : CL D a4h.ash) (k : KD) (hp : a4h.holds a k) =>
 have hp : okK k := hp
 bq (!b5w (kCr k) a.1.node) (fun h1 => (by simp only [a4h, c7a, h1, B5] : some ((false, ()), k) = some (a4h.post a k))) (fun h1 =>
 bq (!j8 a.1) (fun h2 => (by simp only [a4h, c7a, h1, h2, B5, B8] : some ((false, ()), kIg k a.1) = some (a4h.post a k))) (fun h2 =>
 have ew : dgW a.1 = dgS a.1 := d6x (b6x h2)
 have g2 := f9q hp a.1
 have e (b : Bool) (hb : a9a k a.1 = b) : some ((b, ()), kIg k a.1) = some (a4h.post a k) := by simp only [a4h, c7a, h1, h2, B8, hb]
 bq ((sdO (kCh k) a.1.node).isSome) (fun h3 =>
  bq (dq (α := b8) (sd (kCh k) a.1.node).change (dgW a.1).change) (fun h4 =>
   (e true (by rw [ew] at h4; unfold a9a; rw [h3, h4]; rfl) : some ((true, ()), kIg k a.1) = some (a4h.post a k)))
  (fun h4 => pQ (okK (kIg k a.1)) g2 (
   (e _ (by rw [ew] at h4 ⊢; unfold a9a; rw [h3, h4]; rfl) : some ((decide (a1g (kCr k) <= (hrN k (dgW a.1) 0 : Int)), ()), kIg k a.1) = some (a4h.post a k)))))
 (fun h3 => pQ (okK (kIg k a.1)) g2 (
   (e _ (by rw [ew]; unfold a9a; rw [h3]; rfl) : some ((decide (a1g (kCr k) <= (hrN k (dgW a.1) 0 : Int)), ()), kIg k a.1) = some (a4h.post a k))))))
def lvG (k : KD) (c : b8) : (List d7 × Int × Unit) × KD := bif !j8 c then (([], 2, ()), kIg k c) else bif c.node != kSf k then (([], 2, ()), kIg k c) else bif decide (c.view <= (sd (kCh k) (kSf k)).change.view) then (([], 190, ()), kIg k c)
 else (([b4g k c], 0, ()), c0q (kIg k c) (j6 (E := D) .int (.st 8) (kCh k) (kSf k) (dgW c)))
def a4u : i8 D := { ash := [.nm 0, .dat (.st 3)], es := KS, rsh := [.dat (.sl (.st 7)), .dat .int], pes := KS, post := fun a k => lvG k a.1 }
def f9u : a4u.ok EF Tp 26 := i8.proveH (c := a4u) EF Zkg (H := fun _ _ _ _ => none) (call := fun _ _ => d6y (fun _ _ => none) 3) (fun _ _ => c1f _ 3) fun (a : CL D a4u.ash) (k : KD) (_ : a4u.holds a k) =>
 bq (!j8 a.1) (fun h1 => (by simp only [a4u, lvG, h1, B5] : some (([], (2 : Int), ()), kIg k a.1) = some (a4u.post a k))) (fun h1 =>
 have hc := a5i (b6x h1)
 bq (a.1.node != kSf k) (fun h2 => (by simp only [a4u, lvG, h1, h2, B5, B8] : some (([], (2 : Int), ()), kIg k a.1) = some (a4u.post a k))) (fun h2 =>
 bq (decide (a.1.view <= (sd (kCh k) (kSf k)).change.view)) (fun h3 => (by simp only [a4u, lvG, h1, h2, h3, B5, B8] : some (([], (190 : Int), ()), kIg k a.1) = some (a4u.post a k))) (fun h3 =>
 pQ (a.1.mz.length <= 1000000) hc.1 (
 pQ (a.1.p.length <= 1000000) hc.2.1 (
 pQ (a.1.q.length <= 1000000) hc.2.2 (
 (by simp only [a4u, lvG, h1, h2, h3, B8] : some (([b4g k a.1], (0 : Int), ()), c0q (kIg k a.1) (j6 (E := D) .int (.st 8) (kCh k) (kSf k) (dgW a.1))) = some (a4u.post a k))))))))
def c2k (k : KD) (n : d7) : (List d7 × Int × Unit) × KD :=
 bif decide ((dgW n.change).change.view < (sd (kCh k) n.sq).change.view) then (([], 190, ()), kIg k n.change)
 else bif (bif (sd (kCh k) n.sq).change.view == (dgW n.change).change.view then !dq (α := b8) (sd (kCh k) n.sq).change (dgW n.change).change else false) then (([], 151, ()), kIg k n.change)
 else bif (sd (kCh k) n.sq).change.view == (dgW n.change).change.view then (([], 0, ()), kIg k n.change)
 else (([a2i k (dgW n.change)], 0, ()), c0q (kIg k n.change) (j6 (E := D) .int (.st 8) (kCh k) n.sq (dgW n.change)))
def tkG (k : KD) (n : d7) : (List d7 × Int × Unit) × KD :=
 bif (bif !(n.kind == 8) then n.kind != 7 else false) then (([], 2, ()), k)
 else bif (d3g.ret (n, ())).1 != 0 then (([], 2, ()), k)
 else bif n.group != kGr k then (([], 171, ()), k)
 else bif n.epoch != kEp k then (([], 171, ()), k)
 else bif !b5w (kCr k) n.sq then (([], 110, ()), k)
 else bif n.sq == kSf k then (([], 110, ()), k)
 else bif n.kind == 8 then (bif !b5w (kCr k) n.node then (([], 110, ()), k) else (([], (a0t k n).1.1, ()), (a0t k n).2))
 else c2k k n
def a0s : i8 D := { ash := [.nm 0, .dat (.st 7)], es := KS, rsh := [.dat (.sl (.st 7)), .dat .int], pes := KS, post := fun a k => tkG k a.1 }
def f9v : a0s.ok EF Tp 12 := i8.proveH (c := a0s) EF Zkg (H := fun _ _ _ _ => none) (call := fun _ _ => d6y (fun _ _ => none) 3) (fun _ _ => c1f _ 3) fun (a : CL D a0s.ash) (k : KD) (_ : a0s.holds a k) =>
 bq (bif !(a.1.kind == 8) then a.1.kind != 7 else false) (fun h1 => (by simp only [a0s, tkG, h1, B5] : some (([], (2 : Int), ()), k) = some (a0s.post a k))) (fun h1 =>
 pQ (a.1.kind = 7 ∨ a.1.kind = 8) (by by_cases h : a.1.kind = 8 <;> simp [h] at h1 ⊢; exact h1) (
 bq ((d3g.ret (a.1, ())).1 != 0) (fun h2 => (by simp only [a0s, tkG, h1, h2, B5, B8] : some (([], (2 : Int), ()), k) = some (a0s.post a k))) (fun h2 =>
 bq (a.1.group != kGr k) (fun h3 => (by simp only [a0s, tkG, h1, h2, h3, B5, B8] : some (([], (171 : Int), ()), k) = some (a0s.post a k))) (fun h3 =>
 bq (a.1.epoch != kEp k) (fun h4 => (by simp only [a0s, tkG, h1, h2, h3, h4, B5, B8] : some (([], (171 : Int), ()), k) = some (a0s.post a k))) (fun h4 =>
 bq (!b5w (kCr k) a.1.sq) (fun h5 => (by simp only [a0s, tkG, h1]; simp only [h2, h3, h4, h5, B5, B8] : some (([], (110 : Int), ()), k) = some (a0s.post a k))) (fun h5 =>
 bq (a.1.sq == kSf k) (fun h6 => (by simp only [a0s, tkG, h1]; simp only [h2, h3, h4, h5, h6, B5, B8] : some (([], (110 : Int), ()), k) = some (a0s.post a k))) (fun h6 =>
 have e0 : (a0s.post a k) = bif a.1.kind == 8 then (bif !b5w (kCr k) a.1.node then (([], 110, ()), k) else (([], (a0t k a.1).1.1, ()), (a0t k a.1).2)) else c2k k a.1 := by simp only [a0s, tkG, h1]; simp only [h2, h3, h4, h5, h6, B8]
 bq (a.1.kind == 8) (fun h7 =>
  bq (!b5w (kCr k) a.1.node) (fun h8 => (by rw [e0, h7, h8]; rfl : some (([], (110 : Int), ()), k) = some (a0s.post a k))) (fun h8 =>
   (by rw [e0, h7, h8]; rfl : some (([], (a0t k a.1).1.1, ()), (a0t k a.1).2) = some (a0s.post a k))))
 (fun h7 =>
  have e : a0s.post a k = c2k k a.1 := by rw [e0, h7]; rfl
   bq (decide ((dgW a.1.change).change.view < (sd (kCh k) a.1.sq).change.view)) (fun h8 => (by rw [e, c2k, h8]; rfl : some (([], (190 : Int), ()), kIg k a.1.change) = some (a0s.post a k))) (fun h8 =>
   bq (bif (sd (kCh k) a.1.sq).change.view == (dgW a.1.change).change.view then !dq (α := b8) (sd (kCh k) a.1.sq).change (dgW a.1.change).change else false) (fun h9 => (by rw [e, c2k, h8, h9]; rfl : some (([], (151 : Int), ()), kIg k a.1.change) = some (a0s.post a k))) (fun h9 =>
   bq ((sd (kCh k) a.1.sq).change.view == (dgW a.1.change).change.view) (fun h10 => (by rw [e, c2k, h8, h9, h10]; rfl : some (([], (0 : Int), ()), kIg k a.1.change) = some (a0s.post a k))) (fun h10 =>
   (by rw [e, c2k, h8, h9, h10]; rfl : some (([a2i k (dgW a.1.change)], (0 : Int), ()), c0q (kIg k a.1.change) (j6 (E := D) .int (.st 8) (kCh k) a.1.sq (dgW a.1.change))) = some (a0s.post a k)))))))))))))
def g5s : j0 Tp 211 = 112 := by kernel_rfl
def g5t : j0 Tp 169 = 64 := by kernel_rfl
def g8c : j0 Tp 33 = 32 := by kernel_rfl
structure bdC (c : b8) : Prop where
  m : c.mz.length * 40 <= d4
  p : c.p.length * 48 <= d4
  q : c.q.length * 48 <= d4
structure bdW (w : p7) : Prop where
  d : w.data.length <= d4
  n : w.next.length * 8 <= d4
structure bdB (l : List p7) : Prop where
  s : l.length * 112 <= d4
  e : ∀ w ∈ l, bdW w
structure bdN (n : d7) : Prop where
  b : bdB n.batch
  a : n.answer.data.length <= d4
  an : n.answer.nodes.length * 8 <= d4
  c : bdC n.change
  cl : n.changes.length * 96 <= d4
  cs : ∀ c ∈ n.changes, bdC c
  pl : n.picks.length * 64 <= d4
  ps : ∀ p ∈ n.picks, bdB p.batch
  d : n.digests.length * 32 <= d4
  t : n.data.length <= d4
  n : n.nodes.length * 8 <= d4
def d0r : Con D := { ts := [.sl .u8], rt := [.sl .u8], pre := some (fun a => a.1.length <= d4), ret := fun a => a }
def d3i : Con D := { ts := [.sl .int], rt := [.sl .int], pre := some (fun a => a.1.length * 8 <= d4), ret := fun a => a }
def c1g : Con D := { ts := [.st 3], rt := [.st 3], pre := some (fun a => bdC a.1), ret := fun a => a }
def d9d : Con D := { ts := [.st 4], rt := [.st 4], pre := some (fun a => bdW a.1), ret := fun a => a }
def d3j : Con D := { ts := [.sl (.st 4)], rt := [.sl (.st 4)], pre := some (fun a => bdB a.1), ret := fun a => a }
def b6c {n s : Nat} (h : n * s <= d4) : Nat.ble ((0 + n) * s) d4 = true := by rw [F2]; exact D3 h
def e6n : d0r.ok Tp 80 := Con.prove (c := d0r) EF ((Z0.side K0).skip) K0 (H := H0) (n := 2) fun (a : HL D d0r.ts) (hp : d0r.holds a) =>
 bN (Nat.ble ((0 + a.1.length) * j0 Tp 5) d4) (by rw [mb5]; exact b6c (by have h : a.1.length <= d4 := hp; omega)) (rfl : some ([] ++ a.1, ()) = some (d0r.ret a))
def f3w : d3i.ok Tp 100 := Con.prove (c := d3i) EF ((Z0.side K0).skip) K0 (H := H0) (n := 2) fun (a : HL D d3i.ts) (hp : d3i.holds a) =>
 bN (Nat.ble ((0 + a.1.length) * j0 Tp 3) d4) (by rw [mb3]; exact b6c hp) (rfl : some ([] ++ a.1, ()) = some (d3i.ret a))
def c4l : c1g.ok Tp 64 := Con.prove (c := c1g) EF ((Z0.side K0).skip) K0 (H := H0) (n := 2) fun (a : HL D c1g.ts) (hp : c1g.holds a) =>
 have h : bdC a.1 := hp
 bN (Nat.ble ((0 + a.1.mz.length) * j0 Tp 116) d4) (by rw [d5g]; exact b6c h.m) (
 bN (Nat.ble ((0 + a.1.p.length) * j0 Tp 118) d4) (by rw [c9j]; exact b6c h.p) (
 bN (Nat.ble ((0 + a.1.q.length) * j0 Tp 118) d4) (by rw [c9j]; exact b6c h.q) (
 (rfl : some (({ node := a.1.node, view := a.1.view, low := a.1.low, mz := [] ++ a.1.mz, p := [] ++ a.1.p, q := [] ++ a.1.q } : b8), ()) = some (c1g.ret a)))))
abbrev Γcp : Nat -> Option (Con D) := i5 (i5 noC 80 d0r) 100 d3i
def Kcp : n3 EF Tp Γcp noO := (K0.c e6n).c f3w
def g5u : d9d.ok Tp 144 := Con.prove (c := d9d) EF ((Z0.side K0).skip) Kcp (H := H0) (n := 2) fun (a : HL D d9d.ts) (hp : d9d.holds a) =>
 have h : bdW a.1 := hp
 pQ (a.1.data.length <= d4) h.d (
 pQ (a.1.next.length * 8 <= d4) h.n (
 (rfl : some (({ client := a.1.client, stamp := a.1.stamp, group := a.1.group, epoch := a.1.epoch, kind := a.1.kind, block := a.1.block, data := a.1.data, old := a.1.old, nw := a.1.nw, next := a.1.next } : p7), ()) = some (d9d.ret a))))
abbrev Γca : Nat -> Option (Con D) := i5 (i5 Γcp 144 d9d) 64 c1g
def Kca : n3 EF Tp Γca noO := (Kcp.c g5u).c c4l
def f9w (l : List p7) : LH D := ⟨Nat, [3, 4], fun i => [.own 0, iv (i : Int)], fun i => i <= l.length, fun i => l.length - i, [(.sl 3, .st 4, 211)], fun i => [.arr (.st 4) 211 (l.take i)], [], fun _ => []⟩
def caH (a : HL D d3j.ts) : Nat -> Nat -> Option (Hint D) := fun f r => match f, r with
 | 103, 3 => some (.inv (f9w a.1))
 | _, _ => none
def c1h {α : Type} {n i s : Nat} (h : n * s <= d4) (hi : i < n) (l : List α) (hl : l.length = n) : Nat.ble (((l.take i).length + 1) * s) d4 = true := by
 apply D3
 rw [C4, hl, J0 (O0 hi)]
 exact D5 (M4 s hi) h
def a3i {α : Type} {l : List α} {i : Nat} {d : α} (h : i < l.length) : l.getD i d ∈ l := by
 rw [B3, B2 h]; exact M6 h
def g5v : d3j.ok Tp 103 := Con.proveH (c := d3j) EF ((Z0.side K0).skip) (H := caH) (call := fun a => a0g EF ((Z0.side K0).skip) Γca noO (caH a) 4) (fun _ => m7 _ Kca 4) fun (a : HL D d3j.ts) (hp : d3j.holds a) =>
 have h : bdB a.1 := hp
 And.intro (⟨(0 : Nat), rfl, rfl, rfl, C0 _⟩ : Ent (f9w a.1) [SV.own 0, SV.i .i64 0] [HB.arr (.st 4) 211 []] []) (
 fun (i : Nat) (hI : i <= a.1.length) =>
 brL fun hl : a.1.length <= d4 =>
 bq (decide ((i : Int) < (a.1.length : Nat))) (fun h3 =>
 bN (iX (i : Int) ((a.1.length : Nat) : Int)) (ltD h3) (
 pQ (bdW (a.1.getD i (Ty.dflt D (.st 4)))) (h.e _ (a3i (e9 h3))) (
 bN (Nat.ble (((a.1.take i).length + 1) * j0 Tp 211) d4) (by rw [g5s]; exact c1h h.s (e9 h3) a.1 rfl) (
 (⟨i + 1, by
  show [SV.own 0, SV.i .i64 (wrap .i64 ((i : Int) + 1))] = [SV.own 0, iv ((i + 1 : Nat) : Int)]; rw [n4 (e9 h3) hl], by
  show ([HB.arr (.st 4) 211 (a.1.take i ++ [a.1.getD i (Ty.dflt D (.st 4))])] : List (HB D)) = [HB.arr (.st 4) 211 (a.1.take (i + 1))]; rw [a7t (e9 h3)], rfl, (show i + 1 <= a.1.length from e9 h3), a2a h3⟩ : Rnd (f9w a.1) i [SV.own 0, SV.i .i64 (wrap .i64 ((i : Int) + 1))] [HB.arr (.st 4) 211 (a.1.take i ++ [a.1.getD i (Ty.dflt D (.st 4))])] []))))) (fun h3 =>
 (by
  have : i = a.1.length := by have := A9 h3; omega
  rw [this, D1]; rfl : some (a.1.take i, ()) = some (d3j.ret a))))
def f1t (a : HL D [.int]) : HL D [.bool] :=
 (bif decide (1 <= a.1) then decide (a.1 <= 28) else false, ())
def a6x : Con D := { ts := [.int], rt := [.bool], ret := f1t }
def e6o : a6x.ok Tp 98 := Con.prove (c := a6x) EF ((Z0.side K0).skip) K0 (H := H0) (n := 4) fun (a : HL D a6x.ts) (hp : a6x.holds a) =>
 a6x.lf a (rfl)
def b2x (a : HL D [.sl .int, .int]) (i : Nat) : Bool :=
 bif getD a.1 (Int.toNat (↑i : Int)) (Ty.dflt D .int) == a.2.1 then
 false
 else true
def e6p (a : HL D [.sl .int, .int]) : HL D [.bool] :=
 bif a3u (b2x a) (length a.1) then
 (false, ())
 else (true, ())
def b4o : Con D := { ts := [.sl .int, .int], rt := [.bool], ret := e6p }
def g5w (a : HL D [.sl .int, .int]) : Nat -> Nat -> Option (Hint D) := fun f r => match f, r with
 | 99, 2 => some (.inv (a1o a.1.length 5 (b2x a)))
 | _, _ => none
def f9x : b4o.ok Tp 99 := Con.proveH (c := b4o) EF ((Z0.side K0).skip) (H := g5w) (call := fun a => a0g EF ((Z0.side K0).skip) noC noO (g5w a) 4) (fun _ => m7 _ K0 4) fun (a : HL D b4o.ts) (_ : b4o.holds a) =>
 And.intro (b0l : Ent (a1o (length a.1) 5 (b2x a)) [SV.i IntKind.i64 (0 : Int)] [] []) (fun (i : Nat) (hI1 : (a1o (length a.1) 5 (b2x a)).inv i) =>
 br_ (fun h1 : (Nat.ble (length a.1) d4) = true =>
 bq (decide ((↑i : Int) < (↑(length a.1) : Int))) (fun h2 => bN (iX (↑i : Int) (↑(length a.1) : Int)) (by first | exact ltD (by assumption) | exact ltW (by assumption) (by assumption) (by assumption)) (
 bq (getD a.1 (Int.toNat (↑i : Int)) (Ty.dflt D .int) == a.2.1) (fun h3 => b4o.lf a (cf (a1r (e9 h2) (ct h3 (rfl))) rfl)) (fun h3 => (⟨i + 1, a8x h2 (by assumption), rfl, rfl, ⟨e9 h2, a2n hI1.2 (cf h3 (rfl))⟩, a2a h2⟩ : Rnd (a1o (length a.1) 5 (b2x a)) i [SV.i IntKind.i64 (wrap IntKind.i64 ((↑i : Int) + 1))] [] [])))) (fun h2 => b4o.lf a (ct (a2x hI1 h2) (rfl)))) (fun _ => trivial))
abbrev g5x : Nat -> Option (Con D) := i5 noC 98 a6x
def f9y : n3 EF Tp g5x noO := K0.c e6o
def a6y (a : HL D [.st 0]) (i : Nat) : Bool :=
 bif !(a6x.ret (getD a.1.nodes (Int.toNat (↑i : Int)) (Ty.dflt D .int), ())).1 then
 false
 else bif decide (0 < (↑i : Int)) then
 bif decide (getD a.1.nodes (Int.toNat (↑i : Int)) (Ty.dflt D .int) <= getD a.1.nodes (Int.toNat (wrap IntKind.i64 ((↑i : Int) - 1))) (Ty.dflt D .int)) then
 false
 else true
 else true
def d3k (a : HL D [.st 0]) : HL D [.int] :=
 bif bif bif decide (a.1.faults < 0) then true else decide (2 < a.1.faults) then true else (↑(length a.1.nodes) : Int) != wrap IntKind.i64 (wrap IntKind.i64 ((3 : Int) * a.1.faults) + (1 : Int)) then
 ((110 : Int), ())
 else bif a3u (a6y a) (length a.1.nodes) then
 ((0 : Int), ())
 else ((110 : Int), ())
def a2c : Con D := { ts := [.st 0], rt := [.int], ret := d3k }
def f3x (a : HL D [.st 0]) : Nat -> Nat -> Option (Hint D) := fun f r => match f, r with
 | 61, 4 => some (.inv (a1o a.1.nodes.length 3 (a6y a)))
 | _, _ => none
def d6z : a2c.ok Tp 61 := Con.proveH (c := a2c) EF ((Z0.side f9y).skip) (H := f3x) (call := fun a => a0g EF ((Z0.side f9y).skip) g5x noO (f3x a) 4) (fun _ => m7 _ f9y 4) fun (a : HL D a2c.ts) (_ : a2c.holds a) =>
 bq (bif bif decide (a.1.faults < 0) then true else decide (2 < a.1.faults) then true else (↑(length a.1.nodes) : Int) != wrap IntKind.i64 (wrap IntKind.i64 ((3 : Int) * a.1.faults) + (1 : Int))) (fun h1 => a2c.lf a (ct h1 (rfl))) (fun h1 => And.intro (b0l : Ent (a1o (length a.1.nodes) 3 (a6y a)) [SV.i IntKind.i64 (0 : Int)] [] []) (fun (i : Nat) (hI2 : (a1o (length a.1.nodes) 3 (a6y a)).inv i) =>
 br_ (fun h2 : (Nat.ble (length a.1.nodes) d4) = true =>
 bq (decide ((↑i : Int) < (↑(length a.1.nodes) : Int))) (fun h3 => bN (iX (↑i : Int) (↑(length a.1.nodes) : Int)) (by first | exact ltD (by assumption) | exact ltW (by assumption) (by assumption) (by assumption)) (
 bq (!(a6x.ret (getD a.1.nodes (Int.toNat (↑i : Int)) (Ty.dflt D .int), ())).1) (fun h4 => a2c.lf a (cf h1 (cf (a1r (e9 h3) (ct h4 (rfl))) rfl))) (fun h4 => bq (decide (0 < (↑i : Int))) (fun h5 => bN (iX (↑i : Int) (↑(length a.1.nodes) : Int)) (by first | exact ltD (by assumption) | exact ltW (by assumption) (by assumption) (by assumption)) (
 bN (iX (wrap IntKind.i64 ((↑i : Int) - 1)) (↑(length a.1.nodes) : Int)) (by first | exact ltD (by assumption) | exact ltW (by assumption) (by assumption) (by assumption)) (
 bq (decide (getD a.1.nodes (Int.toNat (↑i : Int)) (Ty.dflt D .int) <= getD a.1.nodes (Int.toNat (wrap IntKind.i64 ((↑i : Int) - 1))) (Ty.dflt D .int))) (fun h6 => a2c.lf a (cf h1 (cf (a1r (e9 h3) (cf h4 (ct h5 (ct h6 (rfl))))) rfl))) (fun h6 => (⟨i + 1, a8x h3 (by assumption), rfl, rfl, ⟨e9 h3, a2n hI2.2 (cf h4 (ct h5 (cf h6 (rfl))))⟩, a2a h3⟩ : Rnd (a1o (length a.1.nodes) 3 (a6y a)) i [SV.i IntKind.i64 (wrap IntKind.i64 ((↑i : Int) + 1))] [] []))))) (fun h5 => (⟨i + 1, a8x h3 (by assumption), rfl, rfl, ⟨e9 h3, a2n hI2.2 (cf h4 (cf h5 (rfl)))⟩, a2a h3⟩ : Rnd (a1o (length a.1.nodes) 3 (a6y a)) i [SV.i IntKind.i64 (wrap IntKind.i64 ((↑i : Int) + 1))] [] []))))) (fun h3 => a2c.lf a (cf h1 (ct (a2x hI2 h3) (rfl))))) (fun _ => trivial)))
abbrev g8d : Nat -> Option (Con D) := i5 (i5 noC 61 a2c) 99 b4o
def f1u : n3 EF Tp g8d noO := (K0.c d6z).c f9x
def d3l (a : HL D [.st 0, .int]) : HL D [.bool] :=
 (bif (a2c.ret (a.1, ())).1 == 0 then (b4o.ret (a.1.nodes, a.2)).1 else false, ())
def x0 : Con D := { ts := [.st 0, .int], rt := [.bool], ret := d3l }
def c7b : x0.ok Tp 62 := Con.prove (c := x0) EF ((Z0.side f1u).skip) f1u (H := H0) (n := 4) fun (a : HL D x0.ts) (hp : x0.holds a) =>
 x0.lf a (rfl)
def c7c (a : HL D [.st 0]) : HL D [.int] :=
 bif (a2c.ret a).1 != 0 then
 ((0 : Int), ())
 else (wrap IntKind.i64 (a.1.faults + 1), ())
def a0m : Con D := { ts := [.st 0], rt := [.int], ret := c7c }
def d0s : a0m.ok Tp 110 := Con.prove (c := a0m) EF ((Z0.side f1u).skip) f1u (H := H0) (n := 4) fun (a : HL D a0m.ts) (hp : a0m.holds a) =>
 br_ (fun h1 => a0m.lf a (ct h1 (rfl))) (fun h1 => a0m.lf a (cf h1 (rfl)))
abbrev Γcq : Nat -> Option (Con D) := i5 Γca 103 d3j
def Kcq : n3 EF Tp Γcq noO := Kca.c g5v
def nCl (n : d7) (x y : SV D) : List (SV D) := [iv n.kind, iv n.sq, iv n.group, iv n.epoch, iv n.view, iv n.seq, .dig n.dig, .sl (.st 4) n.batch, iv n.answer.err, .sl .u8 n.answer.data, iv n.answer.epoch, .sl .int n.answer.nodes, iv n.stamp, iv n.node, iv n.change.node, iv n.change.view, iv n.change.low, .sl (.st 1) n.change.mz, .sl (.st 2) n.change.p, .sl (.st 2) n.change.q, x, y, iv n.level, iv n.place, .sl .dig n.digests, .sl .u8 n.data, .sl .int n.nodes]
def e6q (n : d7) : LH D := ⟨Nat, [4], fun i => [iv (i : Int)], fun i => i <= n.changes.length, fun i => n.changes.length - i, [(.bx 2 20, .st 3, 41)], fun i => [.arr (.st 3) 41 (n.changes.take i)], [2], fun _ => [.box 46 (nCl n (.own 0) (.sl (.st 6) n.picks))]⟩
def e6r (n : d7) : LH D := ⟨Nat, [5], fun i => [iv (i : Int)], fun i => i <= n.picks.length, fun i => n.picks.length - i, [(.bx 2 20, .st 3, 41), (.bx 2 21, .st 6, 169)], fun i => [.arr (.st 3) 41 n.changes, .arr (.st 6) 169 (n.picks.take i)], [2], fun _ => [.box 46 (nCl n (.own 0) (.own 1))]⟩
def cpH (a : HL D [.st 7]) : Nat -> Nat -> Option (Hint D) := fun f r => match f, r with
 | 68, 7 => some (.inv (e6q a.1))
 | 68, 12 => some (.inv (e6r a.1))
 | _, _ => none
def c1i : Con D := { ts := [.st 7], rt := [.st 7], pre := some (fun a => bdN a.1), ret := fun a => a }
def e6s : c1i.ok Tp 68 := Con.proveH (c := c1i) EF ((Z0.side K0).skip) (H := cpH) (call := fun a => a0g EF ((Z0.side K0).skip) Γcq noO (cpH a) 4) (fun _ => m7 _ Kcq 4) fun (a : HL D c1i.ts) (hp : c1i.holds a) =>
 have h : bdN a.1 := hp
 pQ (bdB a.1.batch) h.b (
 pQ (a.1.answer.data.length <= d4) h.a (
 pQ (a.1.answer.nodes.length * 8 <= d4) h.an (
 pQ (bdC a.1.change) h.c (
 And.intro (⟨(0 : Nat), rfl, rfl, rfl, C0 _⟩ : Ent (e6q a.1) [SV.i .i64 0] [HB.arr (.st 3) 41 []] [HB.box 46 (nCl a.1 (.own 0) (.sl (.st 6) a.1.picks))]) (
 fun (i : Nat) (hI : i <= a.1.changes.length) =>
 brL fun hl : a.1.changes.length <= d4 =>
 bq (decide ((i : Int) < (a.1.changes.length : Nat))) (fun h3 =>
 bN (iX (i : Int) ((a.1.changes.length : Nat) : Int)) (ltD h3) (
 pQ (bdC (a.1.changes.getD i (Ty.dflt D (.st 3)))) (h.cs _ (a3i (e9 h3))) (
 bN (Nat.ble (((a.1.changes.take i).length + 1) * j0 Tp 41) d4) (by rw [f7p]; exact c1h h.cl (e9 h3) a.1.changes rfl) (
 (⟨i + 1, by
  show [SV.i .i64 (wrap .i64 ((i : Int) + 1))] = [iv ((i + 1 : Nat) : Int)]; rw [n4 (e9 h3) hl], by
  show ([HB.arr (.st 3) 41 (a.1.changes.take i ++ [a.1.changes.getD i (Ty.dflt D (.st 3))])] : List (HB D)) = [HB.arr (.st 3) 41 (a.1.changes.take (i + 1))]; rw [a7t (e9 h3)], rfl, (show i + 1 <= a.1.changes.length from e9 h3), a2a h3⟩ : Rnd (e6q a.1) i [SV.i .i64 (wrap .i64 ((i : Int) + 1))] [HB.arr (.st 3) 41 (a.1.changes.take i ++ [a.1.changes.getD i (Ty.dflt D (.st 3))])] [HB.box 46 (nCl a.1 (.own 0) (.sl (.st 6) a.1.picks))])))) ) (fun h3 =>
 have e1 : i = a.1.changes.length := by have := A9 h3; omega
 And.intro (⟨(0 : Nat), rfl, by rw [e1, D1]; rfl, rfl, C0 _⟩ : Ent (e6r a.1) [SV.i .i64 0] [HB.arr (.st 3) 41 (a.1.changes.take i), HB.arr (.st 6) 169 []] [HB.box 46 (nCl a.1 (.own 0) (.own 1))]) (
 fun (j : Nat) (hJ : j <= a.1.picks.length) =>
 brL fun hk : a.1.picks.length <= d4 =>
 bq (decide ((j : Int) < (a.1.picks.length : Nat))) (fun h6 =>
 bN (iX (j : Int) ((a.1.picks.length : Nat) : Int)) (ltD h6) (
 pQ (bdB (a.1.picks.getD j (Ty.dflt D (.st 6))).batch) (h.ps _ (a3i (e9 h6))) (
 bN (Nat.ble (((a.1.picks.take j).length + 1) * j0 Tp 169) d4) (by rw [g5t]; exact c1h h.pl (e9 h6) a.1.picks rfl) (
 (⟨j + 1, by
  show [SV.i .i64 (wrap .i64 ((j : Int) + 1))] = [iv ((j + 1 : Nat) : Int)]; rw [n4 (e9 h6) hk], by
  show ([HB.arr (.st 3) 41 a.1.changes, HB.arr (.st 6) 169 (a.1.picks.take j ++ [a.1.picks.getD j (Ty.dflt D (.st 6))])] : List (HB D)) = [HB.arr (.st 3) 41 a.1.changes, HB.arr (.st 6) 169 (a.1.picks.take (j + 1))]; rw [a7t (e9 h6)], rfl, (show j + 1 <= a.1.picks.length from e9 h6), a2a h6⟩ : Rnd (e6r a.1) j [SV.i .i64 (wrap .i64 ((j : Int) + 1))] [HB.arr (.st 3) 41 a.1.changes, HB.arr (.st 6) 169 (a.1.picks.take j ++ [a.1.picks.getD j (Ty.dflt D (.st 6))])] [HB.box 46 (nCl a.1 (.own 0) (.own 1))])))) ) (fun h6 =>
 have e2 : j = a.1.picks.length := by have := A9 h6; omega
 bN (Nat.ble ((0 + a.1.digests.length) * j0 Tp 33) d4) (by rw [g8c]; exact b6c h.d) (
 pQ (a.1.data.length <= d4) h.t (
 pQ (a.1.nodes.length * 8 <= d4) h.n (
 (by
  rw [e2, D1]; rfl : some (({ a.1 with picks := a.1.picks.take j } : d7), ()) = some (c1i.ret a)))))))))))))
def ins (l : List (List UInt8)) (x : List UInt8) : List (List UInt8) := bif decide (x ∈ l) then l else l ++ [x]
def c1j : i8 D := { ash := [.nm 0, .dat (.sl .u8)], es := [.box 143 [.nm 1, .dat .int], .arr (.sl .u8) 35], rsh := [.dat .dig, .dat .int], pes := [.box 143 [.nm 1, .dat .int], .arr (.sl .u8) 35], pre := some (fun a e => a.1.length <= 65536 /\ e.2.1.length <= 1000000000), post := fun a e => ((a1w a.1, 0, ()), ((wrap .i64 (e.1.1 + 1), ()), ins e.2.1 a.1, ())) }
def g8e : j0 Tp 35 = 24 := by kernel_rfl
abbrev Γbk : Nat -> Option (Con D) := i5 (i5 (i5 noC 78 b4i) 79 a2m) 80 d0r
def Kbk : n3 EF Tp Γbk noO := ((K0.c c6j).c d5k).c e6n
abbrev bkP (l : List (List UInt8)) (x : List UInt8) (i : Nat) : Bool := !(a2m.ret (l.getD i (Ty.dflt D (.sl .u8)), x, ())).1
def bkH (a : CL D c1j.ash) (e : EL D c1j.es) : Nat -> Nat -> Option (Hint D) := fun f r => match f, r with
 | 36, 6 => some (.inv (a1o e.2.1.length 7 (bkP e.2.1 a.1)))
 | _, _ => none
def a6b {p : Nat -> Bool} : ∀ {n : Nat}, a3u p n = true -> ∀ i, i < n -> p i = true
 | n + 1, h, i, hi => by
  have h : (a3u p n && p n) = true := h; rw [A7] at h; rcases F1.1 hi with hi | rfl
  ·exact a6b h.1 i hi
  ·exact h.2
def c1k {l : List (List UInt8)} {x : List UInt8} (h : x ∈ l) : ins l x = l := by unfold ins; rw [F6 h]; rfl
def c7d {l : List (List UInt8)} {x : List UInt8} (h : x ∉ l) : ins l x = l ++ [x] := by unfold ins; rw [E5 h]; rfl
def g5y : c1j.ok EF Tp 36 := i8.prove (c := c1j) EF Z0 Kbk (H := bkH) (n := 2) fun (a : CL D c1j.ash) (e : EL D c1j.es) (hp : c1j.holds a e) =>
 have p1 : a.1.length <= 65536 := hp.1
 have p2 : e.2.1.length <= 1000000000 := hp.2
 brL fun _ : a.1.length <= d4 =>
 bq (decide (65536 < ((a.1.length : Nat) : Int))) (fun h1 => (absurd (A6 h1) (by omega) : some ((Dig.zero, (5 : Int), ()), e) = some (c1j.post a e))) (fun _ =>
 pQ (a.1.length <= 1000000) (by omega) (
 And.intro (b0l : Ent (a1o e.2.1.length 7 (bkP e.2.1 a.1)) [SV.i .i64 0] [] []) (
 fun (i : Nat) (hI : i <= e.2.1.length /\ a3u (bkP e.2.1 a.1) i = true) =>
 bq (decide ((i : Int) < (e.2.1.length : Nat))) (fun h3 =>
 bN (iX (i : Int) ((e.2.1.length : Nat) : Int)) (ltD h3) (
 bq ((a2m.ret (e.2.1.getD i (Ty.dflt D (.sl .u8)), a)).1) (fun h4 => (by
  have h : a.1 ∈ e.2.1 := by
   have h4 : decide (e.2.1.getD i (Ty.dflt D (.sl .u8)) = a.1) = true := h4; rw [<- A6 h4]; exact a3i (e9 h3)
  show some ((a1w a.1, 0, ()), ((wrap .i64 (e.1.1 + 1), ()), e.2.1, ())) = some ((a1w a.1, 0, ()), ((wrap .i64 (e.1.1 + 1), ()), ins e.2.1 a.1, ())); rw [c1k h] : some ((a1w a.1, (0 : Int), ()), ((wrap .i64 (e.1.1 + 1), ()), e.2.1, ())) = some (c1j.post a e))) (fun h4 =>
 (⟨i + 1, by
   show [SV.i .i64 (wrap .i64 ((i : Int) + 1))] = [iv ((i + 1 : Nat) : Int)]; rw [n4 (e9 h3) (by unfold d4; omega)], rfl, rfl, ⟨e9 h3, a2n hI.2 (by show true = !(a2m.ret (e.2.1.getD i (Ty.dflt D (.sl .u8)), a)).1; rw [h4]; rfl)⟩, a2a h3⟩ : Rnd (a1o e.2.1.length 7 (bkP e.2.1 a.1)) i [SV.i .i64 (wrap .i64 ((i : Int) + 1))] [] [])))) (fun h3 =>
 pQ (a.1.length <= d4) (by unfold d4; omega) (
 bN (Nat.ble ((e.2.1.length + 1) * j0 Tp 35) d4) (by rw [g8e]; exact D3 (by unfold d4; omega)) (
 (by
  have h : a.1 ∉ e.2.1 := fun h => by
   have hA := a6b (a2x (k := 7) hI h3); obtain ⟨j, hj, he⟩ := M5.1 h; have := hA j hj; have he2 : e.2.1.getD j (Ty.dflt D (.sl .u8)) = a.1 := by rw [B3, B2 hj]; exact he
   unfold bkP at this; rw [show (a2m.ret (e.2.1.getD j (Ty.dflt D (.sl .u8)), a.1, ())).1 = decide (e.2.1.getD j (Ty.dflt D (.sl .u8)) = a.1) from rfl, F6 he2] at this; exact absurd this J3
  show some ((a1w a.1, 0, ()), ((wrap .i64 (e.1.1 + 1), ()), e.2.1 ++ [a.1], ())) = some ((a1w a.1, 0, ()), ((wrap .i64 (e.1.1 + 1), ()), ins e.2.1 a.1, ())); rw [c7d h] : some ((a1w a.1, (0 : Int), ()), ((wrap .i64 (e.1.1 + 1), ()), e.2.1 ++ [a.1], ())) = some (c1j.post a e))))))))
def d0t {p : Nat -> Bool} {n : Nat} : a3u p n = true ↔ ∀ i, i < n -> p i = true := by
 constructor
 ·exact a6b
 ·intro h
  induction n with
  | zero => rfl
  | succ n ih => exact a2n (ih fun i hi => h i (by omega)) (h n (by omega)).symm
def d9e {x : Int} : c0c x = true ↔ 1 <= x /\ x <= 28 := by unfold c0c; rw [rgI]; simp
def c4m : ∀ {l : List Int} {p : Int}, a1c p l = true ↔ ∀ i, i < l.length -> (1 <= iA l i /\ iA l i <= 28) /\ (if i = 0 then p else iA l (i - 1)) < iA l i
 | [], p => ⟨fun _ i hi => absurd hi (Q7 i), fun _ => rfl⟩
 | x :: r, p => by
  have e : a1c p (x :: r) = true ↔ (p < x /\ c0c x = true) /\ a1c x r = true := by
   show (bif decide (x <= p) || !c0c x then false else a1c x r) = true ↔ _; by_cases h1 : x <= p
   ·have : ¬ p < x := by omega
    simp [h1, this]
   ·have : p < x := by omega
    cases c0c x <;> simp [h1, this]
  rw [e, c4m (l := r) (p := x), d9e]; constructor
  ·rintro ⟨⟨h1, h2⟩, h3⟩ i hi; cases i with
   | zero => exact ⟨h2, h1⟩
   | succ i =>
    have h4 := h3 i (by simpa using hi); refine ⟨h4.1, ?_⟩; cases i with
    | zero => exact h4.2
    | succ i => exact h4.2
  ·intro h; have h0 := h 0 (by simp); refine ⟨⟨h0.2, h0.1⟩, fun i hi => ?_⟩; have h4 := h (i + 1) (by simpa using hi); refine ⟨h4.1, ?_⟩; cases i with
   | zero => exact h4.2
   | succ i => exact h4.2
def b6y {c : a0c} {i : Nat} (hi : i < c.nodes.length) (hl : c.nodes.length <= 1000000) : a6y (c, ()) i = true ↔ a7u c.nodes i := by
 show (bif !(bif decide (1 <= iA c.nodes i) then decide (iA c.nodes i <= 28) else false) then false else bif decide (0 < (i : Int)) then bif decide (iA c.nodes i <= iA c.nodes (wrap .i64 ((i : Int) - 1)).toNat) then false else true else true) = true ↔ _
 rw [rgI]
 by_cases h1 : 1 <= iA c.nodes i /\ iA c.nodes i <= 28
 ·by_cases h2 : 0 < i
  ·rw [show wrap .i64 ((i : Int) - 1) = ((i - 1 : Nat) : Int) by rw [IntWalk.i64_in _ (by omega)]; omega, G6]
   have h3 : (0 : Int) < (i : Int) := by omega
   by_cases h4 : iA c.nodes i <= iA c.nodes (i - 1)
   ·have : ¬ iA c.nodes (i - 1) < iA c.nodes i := by omega
    simp only [h1, h3, h4, a7u, this, h2]; simp
   ·have : iA c.nodes (i - 1) < iA c.nodes i := by omega
    simp only [h1, h3, h4, a7u, this, h2]; simp
  ·have h3 : ¬ (0 : Int) < (i : Int) := by omega
   simp only [h1, h3, a7u, h2]; simp
 ·simp only [h1, a7u]; simp
def b8l {l : List Int} : (∀ i, i < l.length -> a7u l i) ↔ a1c 0 l = true := by
 rw [c4m]
 constructor
 ·intro h i hi; refine ⟨(h i hi).1, ?_⟩; split
  ·rename_i h0; subst h0; have := (h 0 hi).1; omega
  ·exact (h i hi).2 (by omega)
 ·intro h i hi; refine ⟨(h i hi).1, fun h0 => ?_⟩; have := (h i hi).2
  rwa [F7 (by omega)] at this
def c7e {c : a0c} : (a2c.ret (c, ())).1 = a0j c := by
 show (d3k (c, ())).1 = _
 unfold d3k a0j
 by_cases h1 : c.faults < 0
 ·simp [h1]
 ·by_cases h2 : 2 < c.faults
  ·simp [h2]
  ·have hw : wrap .i64 (wrap .i64 (3 * c.faults) + 1) = 3 * c.faults + 1 := by
    rw [IntWalk.i64_in (3 * c.faults) (by omega), IntWalk.i64_in _ (by omega)]
   simp only [h1, h2, hw, P3, B8]; by_cases h3 : (c.nodes.length : Int) = 3 * c.faults + 1
   ·have h3' : ((c.nodes.length : Int) != 3 * c.faults + 1) = false := by simpa using h3
    rw [h3', B8, B8]; have e : a3u (a6y (c, ())) c.nodes.length = a1c 0 c.nodes := by
     rw [J9, d0t, <- b8l]; exact ⟨fun h i hi => (b6y hi (by omega)).1 (h i hi), fun h i hi => (b6y hi (by omega)).2 (h i hi)⟩
    rw [e]; cases a1c 0 c.nodes <;> rfl
   ·have h3' : ((c.nodes.length : Int) != 3 * c.faults + 1) = true := by simpa using h3
    rw [h3']; rfl
def d0u {c : a0c} : (a0m.ret (c, ())).1 = a1g c := by
 show (c7c (c, ())).1 = (b5s (c, ())).1
 unfold c7c b5s
 rw [c7e]
def a5j {c : a0c} (h : a0j c = 0) : (0 <= c.faults /\ c.faults <= 2) /\ (c.nodes.length : Int) = 3 * c.faults + 1 /\ a1c 0 c.nodes = true := by
 unfold a0j at h
 by_cases h1 : c.faults < 0
 ·simp [h1] at h
 ·by_cases h2 : 2 < c.faults
  ·simp [h1, h2] at h
  ·have hw : wrap .i64 (wrap .i64 (3 * c.faults) + 1) = 3 * c.faults + 1 := by
    rw [IntWalk.i64_in (3 * c.faults) (by omega), IntWalk.i64_in _ (by omega)]
   simp only [h1, h2, hw, P3, B8] at h; by_cases h3 : (c.nodes.length : Int) = 3 * c.faults + 1
   ·have h3' : ((c.nodes.length : Int) != 3 * c.faults + 1) = false := by simpa using h3
    rw [h3', B8] at h; cases h4 : a1c 0 c.nodes with
    | true => exact ⟨by omega, h3, rfl⟩
    | false => rw [h4] at h; exact absurd h (by decide)
   ·have h3' : ((c.nodes.length : Int) != 3 * c.faults + 1) = true := by simpa using h3
    rw [h3'] at h; exact absurd (show (110 : Int) = 0 from h) (by decide)
def b4p {l : List Int} (h : ∀ i, i < l.length -> a7u l i) : ∀ {i j : Nat}, i < j -> j < l.length -> iA l i < iA l j
 | i, j + 1, hij, hj => by
  have h1 := (h (j + 1) hj).2 (by omega); simp only [Nat.add_sub_cancel] at h1; rcases F1.1 hij with h2 | rfl
  ·have := b4p h h2 (by omega); omega
  ·exact h1
def c7f {l : List Int} {t : Int} (h : ∀ i, i < l.length -> a7u l i) : ∀ (f i j : Nat), i <= j -> j <= l.length -> j <= i + f -> (∀ k, k < i -> iA l k < t) -> (∀ k, j <= k -> k < l.length -> t <= iA l k) ->
  (∀ k, k < b5p l t f i j -> iA l k < t) /\ (∀ k, b5p l t f i j <= k -> k < l.length -> t <= iA l k)
 | 0, i, j, h1, h2, h3, h4, h5 => ⟨h4, fun k hk => h5 k (by unfold b5p at hk; omega)⟩
 | f + 1, i, j, h1, h2, h3, h4, h5 => by
  unfold b5p; by_cases hij : i < j
  ·simp only [hij, O2, B5]; by_cases hm : l.getD ((i + j) / 2) 0 < t
   ·simp only [hm, O2, B5]; exact c7f h f _ _ (by omega) h2 (by omega) (fun k hk => by
     rcases F1.1 hk with hk | rfl
     ·have := b4p h hk (by omega : (i + j) / 2 < l.length); have hm : iA l ((i + j) / 2) < t := hm; omega
     ·exact hm) h5
   ·simp only [hm, P3, B8]; exact c7f h f _ _ (by omega) (by omega) (by omega) h4 (fun k hk hl => by
     have hm : ¬ iA l ((i + j) / 2) < t := hm; rcases Nat.eq_or_lt_of_le hk with rfl | hk
     ·omega
     ·have := b4p h hk hl; omega)
  ·simp only [hij, P3, B8]; exact ⟨h4, fun k hk => h5 k (by omega)⟩
def d7a {l : List Int} {t : Int} (h : ∀ i, i < l.length -> a7u l i) : bsF l t = decide (t ∈ l) := by
 obtain ⟨h1, h2⟩ := c7f (t := t) h l.length 0 l.length (C0 _) (B9 _) (by omega) (fun k hk => absurd hk (Q7 k)) (fun k hk hl => by omega)
 change (∀ k, k < bsI l t -> iA l k < t) at h1
 change (∀ k, bsI l t <= k -> k < l.length -> t <= iA l k) at h2
 unfold bsF
 rw [J9, A7, C6, C6, J4]
 constructor
 ·rintro ⟨g1, g2⟩; rw [<- g2]; exact a3i g1
 ·intro hm; obtain ⟨k, hk, he⟩ := M5.1 hm; have hk2 : iA l k = t := by show l.getD k _ = t; rw [B3, B2 hk]; exact he
  have g3 : ¬ k < bsI l t := fun g => by have := h1 k g; omega
  have g4 : bsI l t < l.length := by omega
  refine ⟨g4, ?_⟩; show iA l (bsI l t) = t; rcases Nat.eq_or_lt_of_le (Nat.not_lt.1 g3) with e | e
  ·rw [e]; exact hk2
  ·have := b4p h e hk; have := h2 _ (B9 _) g4; omega
def b4q {c : a0c} (h : a0j c = 0) (x : Int) : b5w c x = decide (x ∈ c.nodes) := by
 show (c3u (c, x, ())).1 = _
 unfold c3u
 rw [h]
 exact d7a (b8l.2 (a5j h).2.2)
def f9z {l : List Int} {x : Int} : (b4o.ret (l, x, ())).1 = decide (x ∈ l) := by
 show (e6p (l, x, ())).1 = _
 unfold e6p
 by_cases h : x ∈ l
 ·obtain ⟨k, hk, he⟩ := M5.1 h; rw [a1r (i := k) hk (by
   unfold b2x; show false = bif l.getD k _ == x then false else true
   rw [B3, B2 hk, O4, he]; simp), F6 h]; rfl
 ·rw [d0t.2 fun i hi => by
   unfold b2x; show (bif l.getD i _ == x then false else true) = true; have : l.getD i (Ty.dflt D .int) ≠ x := fun e => h (e ▸ a3i hi)
   rw [beq_false_of_ne this]; rfl, E5 h]; rfl
def d7b {c : a0c} {x : Int} : (x0.ret (c, x, ())).1 = b5w c x := by
 show (d3l (c, x, ())).1 = (c3u (c, x, ())).1
 unfold d3l c3u
 rw [c7e, f9z]
 cases hc : a0j c == 0 with
 | false => rfl
 | true =>
  have h0 : a0j c = 0 := by simpa using hc
  show decide (x ∈ c.nodes) = bsF c.nodes x; rw [d7a (b8l.2 (a5j h0).2.2)]
def b6z : Dig := ⟨replicate 32 1, rfl⟩
def d3m : Con D := { ts := [], rt := [.dig], ret := fun _ => (b6z, ()) }
def onH : Nat -> Nat -> Option (Hint D) := fun f r => match f, r with
 | 37, 3 => some (.unr 33)
 | _, _ => none
def f3y : d3m.ok Tp 37 := Con.prove (c := d3m) EF Z0 K0 (H := fun _ => onH) (n := 0) fun (_ : HL D d3m.ts) (_ : d3m.holds ()) =>
 (rfl : some (b6z, ()) = some (d3m.ret ()))
def cgB (c : b8) : List UInt8 := (a9c.ret (c, ())).1
def c7g {c : b8} : (cgB c).length <= 6000 := by
 show (bif j8 c then (d9 c, (0 : Int), ()) else ([], 2, ()) : HL D [.sl .u8, .int]).1.length <= 6000
 cases h : j8 c with
 | false => exact C0 _
 | true =>
  obtain ⟨h1, h2, h3⟩ := a1t h; have q := m9 (f := d5) (k := 3) (i := c.q.length) z7 (b0j (c := c) (by have := h1.l; omega) (a8k h2)) (a8l h3)
  rw [D1, d6q] at q; exact D5 q (by decide)
def c1l : Con D := { ts := [.st 7, .st 3], rt := [.st 7], pre := some (fun a => bdN a.1), ret := fun a => (bif decide (a.1.dig = b6z) then { a.1 with dig := a1w (cgB a.2.1) } else a.1, ()) }
abbrev Γow : Nat -> Option (Con D) := i5 (i5 (i5 (i5 (i5 noC 68 c1i) 49 a9c) 37 d3m) 78 b4i) 80 d0r
def Kow : n3 EF Tp Γow noO := ((((K0.c e6s).c f3r).c f3y).c c6j).c e6n
def g5z : Nat -> Nat -> Option (Hint D) := fun f r => match f, r with
 | 36, 6 => some (.unr 2)
 | _, _ => none
def g6a : c1l.ok Tp 67 := Con.proveH (c := c1l) EF Z0 (H := fun _ => g5z) (call := fun _ => a0g EF Z0 Γow noO g5z 4) (fun _ => m7 _ Kow 4) fun (a : HL D c1l.ts) (hp : c1l.holds a) =>
 have hB : (cgB a.2.1).length <= 6000 := c7g
 pQ (bdN a.1) hp (
 bq (decide (a.1.dig = b6z)) (fun h1 =>
 brL fun _ : (cgB a.2.1).length <= d4 =>
 bq (decide (65536 < (((cgB a.2.1).length : Nat) : Int))) (fun h3 =>
 (absurd (A6 h3) (by omega) : some (({ a.1 with dig := Dig.zero } : d7), ()) = some (c1l.ret a))) (fun _ =>
 pQ ((cgB a.2.1).length <= 1000000) (by omega) (
 pQ ((cgB a.2.1).length <= d4) (by unfold d4; omega) (
 (by
  show some (({ a.1 with dig := a1w (cgB a.2.1) } : d7), ()) = some (bif decide (a.1.dig = b6z) then { a.1 with dig := a1w (cgB a.2.1) } else a.1, ()); rw [h1]; rfl : some (({ a.1 with dig := a1w (cgB a.2.1) } : d7), ()) = some (c1l.ret a)))))) (fun h1 =>
 (by
  show some (a.1, ()) = some (bif decide (a.1.dig = b6z) then { a.1 with dig := a1w (cgB a.2.1) } else a.1, ()); rw [h1]; rfl : some (a.1, ()) = some (c1l.ret a))))
abbrev RS : List ES := [.box 140 [.nm 1, .dat (.st 0), .dat .int, .dat .int, .dat .int, .dat (.sl (.st 3)), .dat (.sl (.st 11))], .box 143 [.nm 2, .dat .int], .arr (.sl .u8) 35]
abbrev RD := EL D RS
abbrev rCr (r : RD) : a0c := r.1.1
abbrev rSf (r : RD) : Int := r.1.2.1
abbrev rGr (r : RD) : Int := r.1.2.2.1
abbrev rEp (r : RD) : Int := r.1.2.2.2.1
abbrev rL (r : RD) : List b8 := r.1.2.2.2.2.1
abbrev rA (r : RD) : List a0w := r.1.2.2.2.2.2.1
abbrev rMn (r : RD) : Int := r.2.1.1
abbrev rBk (r : RD) : List (List UInt8) := r.2.2.1
abbrev b0m (r : RD) (x : List UInt8) : RD := (r.1, (wrap .i64 (rMn r + 1), ()), ins (rBk r) x, ())
abbrev a6c (r : RD) (l : List b8) : RD := ((rCr r, rSf r, rGr r, rEp r, l, rA r, ()), r.2)
abbrev d7c (r : RD) (l : List a0w) : RD := ((rCr r, rSf r, rGr r, rEp r, rL r, l, ()), r.2)
structure okQ (r : RD) : Prop where
  bk : (rBk r).length <= 900000000
  len : (rL r).length <= 1000
  ch : ∀ c ∈ rL r, okC c
  al : (rA r).length <= 1000
def c7h {c : b8} (h : okC c) : bdC c := ⟨by have := h.1; unfold d4; omega, by have := h.2.1; unfold d4; omega, by have := h.2.2; unfold d4; omega⟩
def b7a : i8 D := { ash := [.nm 0, .dat (.st 3)], es := RS, rsh := [.dat .dig], pes := RS, pre := some (fun _ r => (rBk r).length <= 1000000000), post := fun a r => ((a1w (cgB a.1), ()), b0m r (cgB a.1)) }
abbrev Γdg : Nat -> Option (Con D) := i5 noC 49 a9c
abbrev Δdg : Nat -> Option (i8 D) := u6 noO 36 c1j
def Kdg : n3 EF Tp Γdg Δdg := (K0.c f3r).o g5y
def d3n : b7a.ok EF Tp 147 := i8.prove (c := b7a) EF Z0 Kdg (H := fun _ _ _ _ => none) (n := 1) fun (a : CL D b7a.ash) (r : RD) (hp : b7a.holds a r) =>
 pQ ((cgB a.1).length <= 65536 /\ (rBk r).length <= 1000000000) ⟨D5 c7g (by decide), hp⟩ (
 (rfl : some ((a1w (cgB a.1), ()), b0m r (cgB a.1)) = some (b7a.post a r)))
def fnd (l : List b8) (x : Int) : Option b8 := l.find? fun c => c.node == x
abbrev chA (l : List b8) (i : Nat) : b8 := l.getD i (Ty.dflt D (.st 3))
def b2e : i8 D := { ash := [.nm 0, .dat .int], es := RS, rsh := [.dat (.st 3), .dat .bool], pes := RS, pre := some (fun _ r => okQ r), post := fun a r => (((fnd (rL r) a.1).getD b2s, (fnd (rL r) a.1).isSome, ()), r) }
def a2d (c : b8) : Bool -> List b8 -> List b8
 | p, [] => bif p then [] else [c]
 | p, x :: r => (bif (bif !p then decide (c.node <= x.node) else false) then [c] else []) ++ ((bif x.node != c.node then [x] else []) ++ a2d c (bif (bif !p then decide (c.node <= x.node) else false) then true else p) r)
def b2y : i8 D := { ash := [.nm 0, .dat (.st 3)], es := RS, rsh := [], pes := RS, pre := some (fun a r => okQ r /\ bdC a.1), post := fun a r => ((), a6c r (a2d a.1 false (rL r))) }
def b4r (l : List b8) (c : b8) : LH D := ⟨List b8 × Bool × Nat, [4, 5, 6], fun i => [.own 0, .b i.2.1, iv (i.2.2 : Int)], fun i => i.2.2 <= l.length /\ i.1.length <= 2 * i.2.2 /\ i.1 ++ a2d c i.2.1 (l.drop i.2.2) = a2d c false l, fun i => l.length - i.2.2, [(.sl 4, .st 3, 41)], fun i => [.arr (.st 3) 41 i.1], [], fun _ => []⟩
abbrev Γpu : Nat -> Option (Con D) := i5 noC 64 c1g
def Kpu : n3 EF Tp Γpu noO := K0.c c4l
theorem g0a {b : Bool} (h : (!b) = true) : b = false := by cases b <;> simp_all
theorem b1j {n : Nat} (h : n <= 100000) : Nat.ble ((n + 1) * j0 Tp 41) d4 = true := by
 rw [f7p]; exact D3 (by unfold d4; omega)
section
variable {c : b8} {l T out : List b8} {p : Bool} {j : Nat} (hj : j < l.length) (hI : out ++ a2d c p (l.drop j) = T)
include hj hI in
theorem c7i : out ++ ((bif (bif !p then decide (c.node <= (chA l j).node) else false) then [c] else []) ++ ((bif (chA l j).node != c.node then [chA l j] else []) ++ a2d c (bif (bif !p then decide (c.node <= (chA l j).node) else false) then true else p) (l.drop (j + 1)))) = T := by
 rw [<- hI, G9 hj]
 have : chA l j = l[j] := by show l.getD j _ = _; rw [B3, B2 hj]; rfl
 rw [this]; rfl
include hj hI in
theorem e6t (hq : (bif !p then decide (c.node <= (chA l j).node) else false) = true) (hn : ((chA l j).node != c.node) = true) : (out ++ [c] ++ [chA l j]) ++ a2d c true (l.drop (j + 1)) = T := by
 have h := c7i hj hI; rw [hq, hn] at h; simpa using h
include hj hI in
theorem e6u (hq : (bif !p then decide (c.node <= (chA l j).node) else false) = true) (hn : ((chA l j).node != c.node) = false) : (out ++ [c]) ++ a2d c true (l.drop (j + 1)) = T := by
 have h := c7i hj hI; rw [hq, hn] at h; simpa using h
include hj hI in
theorem d0v (hq : (bif !p then decide (c.node <= (chA l j).node) else false) = false) (hn : ((chA l j).node != c.node) = true) : (out ++ [chA l j]) ++ a2d c p (l.drop (j + 1)) = T := by
 have h := c7i hj hI; rw [hq, hn] at h; simpa using h
include hj hI in
theorem d0w (hq : (bif !p then decide (c.node <= (chA l j).node) else false) = false) (hn : ((chA l j).node != c.node) = false) : out ++ a2d c p (l.drop (j + 1)) = T := by
 have h := c7i hj hI; rw [hq, hn] at h; simpa using h
end
theorem g0b : b2y.ok EF Tp 101 := i8.proveH (c := b2y) EF ((Z0.side Kpu).skip) (H := fun a r f x => match f, x with | 101, 4 => some (.inv (b4r (rL r) a.1)) | _, _ => none) (call := fun a r => a0g EF ((Z0.side Kpu).skip) Γpu noO (fun f x => match f, x with | 101, 4 => some (.inv (b4r (rL r) a.1)) | _, _ => none) 1) (fun _ _ => m7 _ Kpu 1) fun (a : CL D b2y.ash) (r : RD) (hp : b2y.holds a r) =>
 have hQ : okQ r := hp.1
 have hC : bdC a.1 := hp.2
 And.intro (⟨(([] : List b8), false, (0 : Nat)), rfl, rfl, rfl, ⟨C0 _, B9 _, rfl⟩⟩ : Ent (b4r (rL r) a.1) [SV.own 0, SV.b false, SV.i .i64 0] [HB.arr (.st 3) 41 []] []) (
 fun (i : List b8 × Bool × Nat) (hI : i.2.2 <= (rL r).length /\ i.1.length <= 2 * i.2.2 /\ i.1 ++ a2d a.1 i.2.1 ((rL r).drop i.2.2) = a2d a.1 false (rL r)) =>
 brL fun hl : (rL r).length <= d4 =>
 bq (decide ((i.2.2 : Int) < ((rL r).length : Nat))) (fun h3 =>
 have hj : i.2.2 < (rL r).length := e9 h3
 bq (!i.2.1) (fun h4 =>
 bN (iX (i.2.2 : Int) (((rL r).length : Nat) : Int)) (ltC hj) (
 bq (decide (a.1.node <= ((rL r).getD i.2.2 (Ty.dflt D (.st 3))).node)) (fun h5 =>
 pQ (bdC a.1) hC (
 bN (Nat.ble ((length (i.1) + 1) * j0 Tp 41) d4) (b1j (by have := hI.2.1; have := hQ.len; omega)) (
 bN (iX (i.2.2 : Int) (((rL r).length : Nat) : Int)) (ltC hj) (
 bq (((rL r).getD i.2.2 (Ty.dflt D (.st 3))).node != a.1.node) (fun h6 =>
 bN (iX (i.2.2 : Int) (((rL r).length : Nat) : Int)) (ltC hj) (
 bN (Nat.ble ((length (i.1 ++ [a.1]) + 1) * j0 Tp 41) d4) (b1j (by have := hI.2.1; have := hQ.len; (try simp only [B7, E9]); omega)) (
 (⟨(i.1 ++ [a.1] ++ [((rL r).getD i.2.2 (Ty.dflt D (.st 3)))], true, i.2.2 + 1), by
   show [SV.own 0, SV.b true, SV.i .i64 (wrap .i64 ((i.2.2 : Int) + 1))] = [SV.own 0, SV.b true, iv ((i.2.2 + 1 : Nat) : Int)]; rw [n4 hj hl], rfl, rfl, ⟨hj, by have := hI.2.1; (try simp only [B7, E9]); omega, e6t hj hI.2.2 (by rw [h4]; exact h5) h6⟩, by show (rL r).length - (i.2.2 + 1) < (rL r).length - i.2.2; omega⟩ : Rnd (b4r (rL r) a.1) i [SV.own 0, SV.b true, SV.i .i64 (wrap .i64 ((i.2.2 : Int) + 1))] [HB.arr (.st 3) 41 (i.1 ++ [a.1] ++ [((rL r).getD i.2.2 (Ty.dflt D (.st 3)))])] [])))) (fun h6 =>
 (⟨(i.1 ++ [a.1], true, i.2.2 + 1), by
   show [SV.own 0, SV.b true, SV.i .i64 (wrap .i64 ((i.2.2 : Int) + 1))] = [SV.own 0, SV.b true, iv ((i.2.2 + 1 : Nat) : Int)]; rw [n4 hj hl], rfl, rfl, ⟨hj, by have := hI.2.1; (try simp only [B7, E9]); omega, e6u hj hI.2.2 (by rw [h4]; exact h5) h6⟩, by show (rL r).length - (i.2.2 + 1) < (rL r).length - i.2.2; omega⟩ : Rnd (b4r (rL r) a.1) i [SV.own 0, SV.b true, SV.i .i64 (wrap .i64 ((i.2.2 : Int) + 1))] [HB.arr (.st 3) 41 (i.1 ++ [a.1])] [])))))) (fun h5 =>
 bN (iX (i.2.2 : Int) (((rL r).length : Nat) : Int)) (ltC hj) (
 bq (((rL r).getD i.2.2 (Ty.dflt D (.st 3))).node != a.1.node) (fun h6 =>
 bN (iX (i.2.2 : Int) (((rL r).length : Nat) : Int)) (ltC hj) (
 bN (Nat.ble ((length (i.1) + 1) * j0 Tp 41) d4) (b1j (by have := hI.2.1; have := hQ.len; (try simp only [B7, E9]); omega)) (
 (⟨(i.1 ++ [((rL r).getD i.2.2 (Ty.dflt D (.st 3)))], i.2.1, i.2.2 + 1), by
   show [SV.own 0, SV.b i.2.1, SV.i .i64 (wrap .i64 ((i.2.2 : Int) + 1))] = [SV.own 0, SV.b i.2.1, iv ((i.2.2 + 1 : Nat) : Int)]; rw [n4 hj hl], rfl, rfl, ⟨hj, by have := hI.2.1; (try simp only [B7, E9]); omega, d0v hj hI.2.2 (by rw [h4]; exact h5) h6⟩, by show (rL r).length - (i.2.2 + 1) < (rL r).length - i.2.2; omega⟩ : Rnd (b4r (rL r) a.1) i [SV.own 0, SV.b i.2.1, SV.i .i64 (wrap .i64 ((i.2.2 : Int) + 1))] [HB.arr (.st 3) 41 (i.1 ++ [((rL r).getD i.2.2 (Ty.dflt D (.st 3)))])] [])))) (fun h6 =>
 (⟨(i.1, i.2.1, i.2.2 + 1), by
   show [SV.own 0, SV.b i.2.1, SV.i .i64 (wrap .i64 ((i.2.2 : Int) + 1))] = [SV.own 0, SV.b i.2.1, iv ((i.2.2 + 1 : Nat) : Int)]; rw [n4 hj hl], rfl, rfl, ⟨hj, by have := hI.2.1; (try simp only [B7, E9]); omega, d0w hj hI.2.2 (by rw [h4]; exact h5) h6⟩, by show (rL r).length - (i.2.2 + 1) < (rL r).length - i.2.2; omega⟩ : Rnd (b4r (rL r) a.1) i [SV.own 0, SV.b i.2.1, SV.i .i64 (wrap .i64 ((i.2.2 : Int) + 1))] [HB.arr (.st 3) 41 (i.1)] [])))))) (fun h4 =>
 bN (iX (i.2.2 : Int) (((rL r).length : Nat) : Int)) (ltC hj) (
 bq (((rL r).getD i.2.2 (Ty.dflt D (.st 3))).node != a.1.node) (fun h6 =>
 bN (iX (i.2.2 : Int) (((rL r).length : Nat) : Int)) (ltC hj) (
 bN (Nat.ble ((length (i.1) + 1) * j0 Tp 41) d4) (b1j (by have := hI.2.1; have := hQ.len; (try simp only [B7, E9]); omega)) (
 (⟨(i.1 ++ [((rL r).getD i.2.2 (Ty.dflt D (.st 3)))], i.2.1, i.2.2 + 1), by
   show [SV.own 0, SV.b i.2.1, SV.i .i64 (wrap .i64 ((i.2.2 : Int) + 1))] = [SV.own 0, SV.b i.2.1, iv ((i.2.2 + 1 : Nat) : Int)]; rw [n4 hj hl], rfl, rfl, ⟨hj, by have := hI.2.1; (try simp only [B7, E9]); omega, d0v hj hI.2.2 (by rw [h4]; rfl) h6⟩, by show (rL r).length - (i.2.2 + 1) < (rL r).length - i.2.2; omega⟩ : Rnd (b4r (rL r) a.1) i [SV.own 0, SV.b i.2.1, SV.i .i64 (wrap .i64 ((i.2.2 : Int) + 1))] [HB.arr (.st 3) 41 (i.1 ++ [((rL r).getD i.2.2 (Ty.dflt D (.st 3)))])] [])))) (fun h6 =>
 (⟨(i.1, i.2.1, i.2.2 + 1), by
   show [SV.own 0, SV.b i.2.1, SV.i .i64 (wrap .i64 ((i.2.2 : Int) + 1))] = [SV.own 0, SV.b i.2.1, iv ((i.2.2 + 1 : Nat) : Int)]; rw [n4 hj hl], rfl, rfl, ⟨hj, by have := hI.2.1; (try simp only [B7, E9]); omega, d0w hj hI.2.2 (by rw [h4]; rfl) h6⟩, by show (rL r).length - (i.2.2 + 1) < (rL r).length - i.2.2; omega⟩ : Rnd (b4r (rL r) a.1) i [SV.own 0, SV.b i.2.1, SV.i .i64 (wrap .i64 ((i.2.2 : Int) + 1))] [HB.arr (.st 3) 41 (i.1)] []))))) (fun h3 =>
 have e : (rL r).drop i.2.2 = [] := I8 (by have := A9 h3; omega)
 bq (!i.2.1) (fun h4 =>
 pQ (bdC a.1) hC (
 bN (Nat.ble ((length (i.1) + 1) * j0 Tp 41) d4) (b1j (by have := hI.2.1; have := hQ.len; omega)) (
 (by
  have h := hI.2.2; rw [e, show a2d a.1 i.2.1 [] = [a.1] by show (bif i.2.1 then [] else [a.1]) = _; rw [g0a h4]; rfl] at h
  show some ((), a6c r (i.1 ++ [a.1])) = some ((), a6c r (a2d a.1 false (rL r))); rw [h] : some ((), a6c r (i.1 ++ [a.1])) = some (b2y.post a r))))) (fun h4 =>
 (by
  have h := hI.2.2; rw [e, show a2d a.1 i.2.1 [] = [] by show (bif i.2.1 then [] else [a.1]) = _; rw [b6x h4]; rfl, D6] at h
  show some ((), a6c r i.1) = some ((), a6c r (a2d a.1 false (rL r))); rw [h] : some ((), a6c r i.1) = some (b2y.post a r)))))
abbrev ofP (l : List b8) (x : Int) (i : Nat) : Bool := !((chA l i).node == x)
theorem g0c {l : List b8} {x : Int} : ∀ {i : Nat}, i < l.length -> a3u (ofP l x) i = true -> ((chA l i).node == x) = true -> fnd l x = some (chA l i) := by
 intro i hi ha he
 have hA := a6b ha
 have e (k : Nat) (hk : k < l.length) : chA l k = l[k] := by show l.getD k _ = _; rw [B3, B2 hk]; rfl
 unfold fnd
 rw [List.find?_eq_some_iff_getElem]
 refine ⟨he, i, hi, (e i hi).symm, fun j hj => ?_⟩
 have := hA j hj
 unfold ofP at this
 rwa [e j (by omega)] at this
theorem g0d {l : List b8} {x : Int} (h : a3u (ofP l x) l.length = true) : fnd l x = none := by
 unfold fnd
 rw [U1]
 intro c hc
 obtain ⟨k, hk, he⟩ := M5.1 hc
 have := a6b h k hk
 unfold ofP at this
 have e : chA l k = l[k] := by show l.getD k _ = _; rw [B3, B2 hk]; rfl
 rw [e, he] at this
 simpa using this
theorem e6v : b2e.looks EF Tp 77 := i8.proveL (c := b2e) EF ((Z0.side Kpu).skip) (H := fun a r f x => match f, x with | 77, 2 => some (.inv (a1o (rL r).length 6 (ofP (rL r) a.1))) | _, _ => none) (call := fun a r => a0g EF ((Z0.side Kpu).skip) Γpu noO (fun f x => match f, x with | 77, 2 => some (.inv (a1o (rL r).length 6 (ofP (rL r) a.1))) | _, _ => none) 1) (fun _ _ => m7 _ Kpu 1) fun (a : CL D b2e.ash) (r : RD) (hp : okQ r) =>
 And.intro (b0l : Ent (a1o (rL r).length 6 (ofP (rL r) a.1)) [SV.i .i64 0] [] []) (
 fun (i : Nat) (hI : i <= (rL r).length /\ a3u (ofP (rL r) a.1) i = true) =>
 brL fun hl : (rL r).length <= d4 =>
 bq (decide ((i : Int) < ((rL r).length : Nat))) (fun h3 =>
 bN (iX (i : Int) (((rL r).length : Nat) : Int)) (ltD h3) (
 bq ((chA (rL r) i).node == a.1) (fun h4 =>
 bN (iX (i : Int) (((rL r).length : Nat) : Int)) (ltD h3) (
 pQ (bdC (chA (rL r) i)) (c7h (hp.ch _ (a3i (e9 h3)))) (
 (by
  show some (chA (rL r) i, true, ()) = some ((fnd (rL r) a.1).getD b2s, (fnd (rL r) a.1).isSome, ()); rw [g0c (e9 h3) hI.2 h4]; rfl : some (chA (rL r) i, true, ()) = some (b2e.post a r).1)))) (fun h4 =>
 (⟨i + 1, a8x h3 (D3 hl), rfl, rfl, ⟨e9 h3, a2n hI.2 (by unfold ofP; rw [h4]; rfl)⟩, a2a h3⟩ : Rnd (a1o (rL r).length 6 (ofP (rL r) a.1)) i [SV.i .i64 (wrap .i64 ((i : Int) + 1))] [] [])))) (fun h3 =>
 (by
  show some (b2s, false, ()) = some ((fnd (rL r) a.1).getD b2s, (fnd (rL r) a.1).isSome, ()); rw [g0d (a2x (k := 6) hI h3)]; rfl : some (b2s, false, ()) = some (b2e.post a r).1)))
abbrev arA (l : List a0w) (i : Nat) : a0w := l.getD i (Ty.dflt D (.st 11))
def a5f (n : d7) (a : a0w) : Bool := bif a.sq != n.sq then true else a.node != n.node
def a8q (n : d7) (a : a0w) : Bool := bif a5f n a then false else bif decide (n.view < a.view) then true else bif a.view == n.view then !decide (a.dig = n.dig) else false
def d3o (n : d7) (a : a0w) : Int := bif decide (n.view < a.view) then 190 else 151
def c2l (n : d7) : a0w := ⟨n.sq, n.node, n.view, n.dig⟩
def akP (n : d7) (r : RD) : (Int × Unit) × RD := match (rA r).find? (a8q n) with
 | some a => ((d3o n a, ()), r)
 | none => ((0, ()), d7c r ((rA r).filter (a5f n) ++ [c2l n]))
def b7b : i8 D := { ash := [.nm 0, .dat (.st 7)], es := RS, rsh := [.dat .int], pes := RS, pre := some (fun _ r => okQ r), post := fun a r => akP a.1 r }
def d7d (l : List a0w) (n : d7) : LH D := ⟨Nat, [5, 6], fun i => [.own 0, iv (i : Int)], fun i => i <= l.length /\ a3u (fun k => !a8q n (arA l k)) i = true, fun i => l.length - i, [(.sl 5, .st 11, 214)], fun i => [.arr (.st 11) 214 ((l.take i).filter (a5f n))], [], fun _ => []⟩
def m3 (c : b8) (x : Int) (a : a0w) : Bool := bif (bif a.sq == x then a.node == c.node else false) then a.view == c.view else false
def rIt : Nat -> RD -> List UInt8 -> RD
 | 0, r, _ => r
 | m + 1, r, x => b0m (rIt m r x) x
def hg (c : b8) (x : Int) (d : Dig) : List a0w -> Nat × Bool
 | [] => (0, false)
 | a :: r => bif m3 c x a then (bif decide (a.dig = d) then (1, true) else ((hg c x d r).1 + 1, (hg c x d r).2)) else hg c x d r
def rhP (r : RD) (c : b8) (x : Int) : (Bool × Unit) × RD :=
 bif x == c.node then ((false, ()), r)
 else bif x == rSf r then ((bif (fnd (rL r) c.node).isSome then dq (α := b8) ((fnd (rL r) c.node).getD b2s) c else false, ()), r)
 else (((hg c x (a1w (cgB c)) (rA r)).2, ()), rIt (hg c x (a1w (cgB c)) (rA r)).1 r (cgB c))
def a8y : i8 D := { ash := [.nm 0, .dat (.st 3), .dat .int], es := RS, rsh := [.dat .bool], pes := RS, pre := some (fun _ r => okQ r), post := fun a r => rhP r a.1 a.2.1 }
def a3w (r : RD) : HB D := .box 140 [.ptr 1 0, iv (rCr r).faults, .sl .int (rCr r).nodes, iv (rSf r), iv (rGr r), iv (rEp r), .sl (.st 3) (rL r), .sl (.st 11) (rA r)]
def c4n (r : RD) (c : b8) (x : Int) : LH D := ⟨Nat × Nat, [9], fun i => [iv (i.2 : Int)], fun i => i.2 <= (rA r).length /\ i.1 <= i.2 /\ hg c x (a1w (cgB c)) (rA r) = (i.1 + (hg c x (a1w (cgB c)) ((rA r).drop i.2)).1, (hg c x (a1w (cgB c)) ((rA r).drop i.2)).2), fun i => (rA r).length - i.2, [(.bx 1 0, .sl .u8, 35)], fun i => [.arr (.sl .u8) 35 (rBk (rIt i.1 r (cgB c)))], [0, 1], fun i => [a3w r, .box 143 [.own 0, iv (rMn (rIt i.1 r (cgB c)))]]⟩
abbrev Γhd : Nat -> Option (Con D) := i5 (i5 noC 64 c1g) 23 a3r
abbrev Δhd : Nat -> Option (i8 D) := u6 noO 147 b7a
def Khd : n3 EF Tp Γhd Δhd := ((K0.c c4l).c b1c).o d3n
abbrev Λof : Nat -> Option (i8 D) := u6 (fun _ => none) 77 b2e
def Lof : a0r EF Tp Λof := a0r.nil.o e6v
abbrev Zhd : ZF Tp D := (Z0.side Khd).skip
def hdH (r : RD) (a : CL D a8y.ash) : Nat -> Nat -> Option (Hint D) := fun f x => match f, x with
 | 109, 7 => some (.inv (c4n r a.1 a.2.1))
 | _, _ => none
def akH (r : RD) (a : CL D b7b.ash) : Nat -> Nat -> Option (Hint D) := fun f x => match f, x with
 | 105, 3 => some (.inv (d7d (rA r) a.1))
 | _, _ => none
def g6b : j0 Tp 214 = 56 := by kernel_rfl
def e6w {n : Nat} (h : n <= 1000) : Nat.ble ((n + 1) * j0 Tp 214) d4 = true := by
 rw [g6b]; exact D3 (by unfold d4; omega)
section
variable {α : Type} {q : α -> Bool} {l : List α} {d : α}
def a2o {k : Nat} (hk : k < l.length) : l.getD k d = l[k] := by rw [B3, B2 hk]; rfl
def f3z {i : Nat} (hi : i < l.length) (ha : a3u (fun k => !q (l.getD k d)) i = true) (he : q (l.getD i d) = true) : l.find? q = some (l.getD i d) := by
 have hA := a6b ha
 rw [List.find?_eq_some_iff_getElem]
 refine ⟨he, i, hi, (a2o hi).symm, fun j hj => ?_⟩
 have := hA j hj
 simp only [a2o (d := d) (Nat.lt_trans hj hi)] at this
 exact this
def g6c (h : a3u (fun k => !q (l.getD k d)) l.length = true) : l.find? q = none := by
 rw [U1]
 intro c hc
 obtain ⟨k, hk, he⟩ := M5.1 hc
 have := a6b h k hk
 simp only [a2o (d := d) hk, he] at this
 simpa using this
def d7e {f : α -> Bool} {i : Nat} (hi : i < l.length) : (l.take i).filter f ++ (if f (l.getD i d) = true then [l.getD i d] else []) = (l.take (i + 1)).filter f := by
 rw [D9 hi, L4, a2o hi]
 cases h : f l[i] <;> simp [h]
end
def g0e : b7b.ok EF Tp 105 := i8.proveH (c := b7b) EF ((Z0.side K0).skip) (H := fun a r => akH r a) (call := fun _ _ => a0g EF ((Z0.side K0).skip) noC noO (fun _ _ => none) 1) (fun _ _ => m7 _ K0 1) fun (a : CL D b7b.ash) (r : RD) (hp : okQ r) =>
 And.intro (⟨(0 : Nat), rfl, rfl, rfl, ⟨C0 _, rfl⟩⟩ : Ent (d7d (rA r) a.1) [SV.own 0, SV.i .i64 0] [HB.arr (.st 11) 214 []] []) (
 fun (i : Nat) (hI : i <= (rA r).length /\ a3u (fun k => !a8q a.1 (arA (rA r) k)) i = true) =>
 have hf : ((take i (rA r)).filter (a5f a.1)).length <= 1000 := D5 (O6 _ _) (by rw [C4]; have := hp.al; omega)
 brL fun hl : (rA r).length <= d4 =>
 bq (decide ((i : Int) < ((rA r).length : Nat))) (fun h3 =>
 bN (iX (i : Int) (((rA r).length : Nat) : Int)) (ltD h3) (
 bq (a5f a.1 (arA (rA r) i)) (fun h4 =>
 bN (Nat.ble ((((take i (rA r)).filter (a5f a.1)).length + 1) * j0 Tp 214) d4) (e6w hf) (
 (⟨i + 1, by
   show [SV.own 0, SV.i .i64 (wrap .i64 ((i : Int) + 1))] = [SV.own 0, iv ((i + 1 : Nat) : Int)]; rw [n4 (e9 h3) hl], by
   show ([HB.arr (.st 11) 214 (((take i (rA r)).filter (a5f a.1)) ++ [(arA (rA r) i)])] : List (HB D)) = [HB.arr (.st 11) 214 ((take (i + 1) (rA r)).filter (a5f a.1))]; rw [<- d7e (d := Ty.dflt D (.st 11)) (e9 h3), F8 h4], rfl, ⟨e9 h3, a2n hI.2 (by show true = !a8q a.1 (arA (rA r) i); unfold a8q; rw [h4]; rfl)⟩, a2a h3⟩ : Rnd (d7d (rA r) a.1) i [SV.own 0, SV.i .i64 (wrap .i64 ((i : Int) + 1))] [HB.arr (.st 11) 214 (((take i (rA r)).filter (a5f a.1)) ++ [(arA (rA r) i)])] []))) (fun h4 =>
 bq (decide (a.1.view < (arA (rA r) i).view)) (fun h5 =>
 (by
  show some ((190, ()), r) = some (akP a.1 r); unfold akP; rw [f3z (q := a8q a.1) (d := Ty.dflt D (.st 11)) (e9 h3) hI.2 (by unfold a8q; rw [h4, h5]; rfl)]
  show some (((190 : Int), ()), r) = some ((d3o a.1 (arA (rA r) i), ()), r); unfold d3o; rw [h5]; rfl : some (((190 : Int), ()), r) = some (b7b.post a r))) (fun h5 =>
 bq (bif (arA (rA r) i).view == a.1.view then !decide ((arA (rA r) i).dig = a.1.dig) else false) (fun h6 =>
 (by
  show some ((151, ()), r) = some (akP a.1 r); unfold akP; rw [f3z (q := a8q a.1) (d := Ty.dflt D (.st 11)) (e9 h3) hI.2 (by unfold a8q; rw [h4, h5, h6]; rfl)]
  show some (((151 : Int), ()), r) = some ((d3o a.1 (arA (rA r) i), ()), r); unfold d3o; rw [h5]; rfl : some (((151 : Int), ()), r) = some (b7b.post a r))) (fun h6 =>
 (⟨i + 1, by
   show [SV.own 0, SV.i .i64 (wrap .i64 ((i : Int) + 1))] = [SV.own 0, iv ((i + 1 : Nat) : Int)]; rw [n4 (e9 h3) hl], by
   show ([HB.arr (.st 11) 214 (((take i (rA r)).filter (a5f a.1)))] : List (HB D)) = [HB.arr (.st 11) 214 ((take (i + 1) (rA r)).filter (a5f a.1))]; rw [<- d7e (d := Ty.dflt D (.st 11)) (e9 h3), F7 (by rw [h4]; exact J3), D6], rfl, ⟨e9 h3, a2n hI.2 (by show true = !a8q a.1 (arA (rA r) i); unfold a8q; rw [h4, h5, h6]; rfl)⟩, a2a h3⟩ : Rnd (d7d (rA r) a.1) i [SV.own 0, SV.i .i64 (wrap .i64 ((i : Int) + 1))] [HB.arr (.st 11) 214 (((take i (rA r)).filter (a5f a.1)))] [])))))) (fun h3 =>
 have e : i = (rA r).length := by have := A9 h3; omega
 bN (Nat.ble ((((take i (rA r)).filter (a5f a.1)).length + 1) * j0 Tp 214) d4) (e6w hf) (
 (by
  show some (((0 : Int), ()), d7c r (((take i (rA r)).filter (a5f a.1)) ++ [c2l a.1])) = some (akP a.1 r); unfold akP; rw [g6c (q := a8q a.1) (d := Ty.dflt D (.st 11)) (a2x (k := 6) hI h3), e, D1] : some (((0 : Int), ()), d7c r (((take i (rA r)).filter (a5f a.1)) ++ [c2l a.1])) = some (b7b.post a r)))))
def f1v {l : List (List UInt8)} {x : List UInt8} : ins (ins l x) x = ins l x := by
 by_cases h : x ∈ l
 ·rw [c1k h, c1k h]
 ·rw [c7d h, c1k (by simp)]
def e6x {r : RD} {x : List UInt8} : ∀ m, rBk (rIt m r x) = rBk r ∨ rBk (rIt m r x) = ins (rBk r) x
 | 0 => .inl rfl
 | m + 1 => by
  have e : rBk (rIt (m + 1) r x) = ins (rBk (rIt m r x)) x := rfl; rcases e6x (r := r) (x := x) m with h | h
  ·exact .inr (by rw [e, h])
  ·exact .inr (by rw [e, h, f1v])
def b8m {l : List (List UInt8)} {x : List UInt8} : (ins l x).length <= l.length + 1 := by
 by_cases h : x ∈ l
 ·rw [c1k h]; omega
 ·rw [c7d h, B7]; exact B9 _
def d7f {r : RD} {x : List UInt8} {m : Nat} : (rBk (rIt m r x)).length <= (rBk r).length + 1 := by
 rcases e6x (r := r) (x := x) m with h | h
 ·rw [h]; omega
 ·rw [h]; exact b8m
def e6y {r : RD} {x : List UInt8} : ∀ m, (rIt m r x).1 = r.1
 | 0 => rfl
 | m + 1 => e6y m
def d7g {r : RD} {x : List UInt8} (m : Nat) : rIt m r x = (r.1, (rMn (rIt m r x), ()), rBk (rIt m r x), ()) := by
 rw [<- e6y (x := x) m]
section
variable {c : b8} {x : Int} {d : Dig} {l : List a0w} {j m : Nat} {T : Nat × Bool}
def c7j (hj : j < l.length) : hg c x d (l.drop j) = bif m3 c x (arA l j) then (bif decide ((arA l j).dig = d) then (1, true) else ((hg c x d (l.drop (j + 1))).1 + 1, (hg c x d (l.drop (j + 1))).2)) else hg c x d (l.drop (j + 1)) := by
 rw [G9 hj, show arA l j = l[j] from a2o hj]; rfl
def g8f (hj : j < l.length) (hm : m3 c x (arA l j) = true) (hd : decide ((arA l j).dig = d) = true) (hI : T = (m + (hg c x d (l.drop j)).1, (hg c x d (l.drop j)).2)) : T = (m + 1, true) := by
 rw [hI, c7j hj, hm, hd]; rfl
def g8g (hj : j < l.length) (hm : m3 c x (arA l j) = true) (hd : decide ((arA l j).dig = d) = false) (hI : T = (m + (hg c x d (l.drop j)).1, (hg c x d (l.drop j)).2)) : T = (m + 1 + (hg c x d (l.drop (j + 1))).1, (hg c x d (l.drop (j + 1))).2) := by
 rw [hI, c7j hj, hm, hd]
 show (m + ((hg c x d (l.drop (j + 1))).1 + 1), _) = _
 rw [I6, Q6 1]; rfl
def g0f (hj : j < l.length) (hm : m3 c x (arA l j) = false) (hI : T = (m + (hg c x d (l.drop j)).1, (hg c x d (l.drop j)).2)) : T = (m + (hg c x d (l.drop (j + 1))).1, (hg c x d (l.drop (j + 1))).2) := by
 rw [hI, c7j hj, hm]; rfl
end
def e6z : a8y.ok EF Tp 109 := i8.proveH (c := a8y) EF Zhd (H := fun a r => hdH r a) (call := fun _ _ => a4n EF Zhd Λof Γhd Δhd (fun _ _ => none) 1) (fun _ _ => a1b Lof Khd 1) fun (a : CL D a8y.ash) (r : RD) (hp : okQ r) =>
 bq (a.2.1 == a.1.node) (fun h1 => (by
  show some ((false, ()), r) = some (rhP r a.1 a.2.1); unfold rhP; rw [h1]; rfl : some ((false, ()), r) = some (a8y.post a r))) (fun h1 =>
 bq (a.2.1 == rSf r) (fun h2 =>
 pQ (okQ r) hp (
 (by
  show some ((bif (fnd (rL r) a.1.node).isSome then dq (α := b8) ((fnd (rL r) a.1.node).getD b2s) a.1 else false, ()), r) = some (rhP r a.1 a.2.1); unfold rhP; rw [h1, h2]; rfl : some ((bif (fnd (rL r) a.1.node).isSome then dq (α := b8) ((fnd (rL r) a.1.node).getD b2s) a.1 else false, ()), r) = some (a8y.post a r)))) (fun h2 =>
 have hP : a8y.post a r = (((hg a.1 a.2.1 (a1w (cgB a.1)) (rA r)).2, ()), rIt (hg a.1 a.2.1 (a1w (cgB a.1)) (rA r)).1 r (cgB a.1)) := by
  show rhP r a.1 a.2.1 = _; unfold rhP; rw [h1, h2]; rfl
 And.intro (⟨((0 : Nat), (0 : Nat)), rfl, rfl, rfl, ⟨C0 _, B9 _, by rw [F2]; rfl⟩⟩ : Ent (c4n r a.1 a.2.1) [SV.i .i64 0] [HB.arr (.sl .u8) 35 (rBk (rIt (0) r (cgB a.1)))] [a3w r, HB.box 143 [SV.own 0, iv (rMn (rIt (0) r (cgB a.1)))]]) (
 fun (i : Nat × Nat) (hI : i.2 <= (rA r).length /\ i.1 <= i.2 /\ hg a.1 a.2.1 (a1w (cgB a.1)) (rA r) = (i.1 + (hg a.1 a.2.1 (a1w (cgB a.1)) ((rA r).drop i.2)).1, (hg a.1 a.2.1 (a1w (cgB a.1)) ((rA r).drop i.2)).2)) =>
 brL fun hl : (rA r).length <= d4 =>
 bq (decide ((i.2 : Int) < ((rA r).length : Nat))) (fun h5 =>
 bN (iX (i.2 : Int) (((rA r).length : Nat) : Int)) (ltD h5) (
 bq ((arA (rA r) i.2).sq == a.2.1) (fun h6 =>
 bq ((arA (rA r) i.2).node == a.1.node) (fun h7 =>
 bq ((arA (rA r) i.2).view == a.1.view) (fun h8 =>
 have hm : m3 a.1 a.2.1 (arA (rA r) i.2) = true := by unfold m3; rw [h6, h7, h8]; rfl
 pQ ((rBk (rIt i.1 r (cgB a.1))).length <= 1000000000) (D5 d7f (by have := hp.bk; omega)) (
 bq (decide ((arA (rA r) i.2).dig = (a1w (cgB a.1)))) (fun h9 =>
 (by
  rw [hP, g8f (e9 h5) hm h9 hI.2.2, d7g (i.1 + 1)]; rfl : some ((true, ()), r.1, (rMn (rIt (i.1 + 1) r (cgB a.1)), ()), rBk (rIt (i.1 + 1) r (cgB a.1)), ()) = some (a8y.post a r))) (fun h9 =>
 (⟨(i.1 + 1, i.2 + 1), by
   show [SV.i .i64 (wrap .i64 ((i.2 : Int) + 1))] = [iv ((i.2 + 1 : Nat) : Int)]; rw [n4 (e9 h5) hl], rfl, rfl, ⟨e9 h5, by have := hI.2.1; omega, g8g (e9 h5) hm h9 hI.2.2⟩, a2a h5⟩ : Rnd (c4n r a.1 a.2.1) i [SV.i .i64 (wrap .i64 ((i.2 : Int) + 1))] [HB.arr (.sl .u8) 35 (rBk (rIt (i.1 + 1) r (cgB a.1)))] [a3w r, HB.box 143 [SV.own 0, iv (rMn (rIt (i.1 + 1) r (cgB a.1)))]])))) (fun h8 =>
 (⟨(i.1, i.2 + 1), by
   show [SV.i .i64 (wrap .i64 ((i.2 : Int) + 1))] = [iv ((i.2 + 1 : Nat) : Int)]; rw [n4 (e9 h5) hl], rfl, rfl, ⟨e9 h5, by have := hI.2.1; omega, g0f (e9 h5) (by unfold m3; rw [h6, h7, h8]; rfl) hI.2.2⟩, a2a h5⟩ : Rnd (c4n r a.1 a.2.1) i [SV.i .i64 (wrap .i64 ((i.2 : Int) + 1))] [HB.arr (.sl .u8) 35 (rBk (rIt (i.1) r (cgB a.1)))] [a3w r, HB.box 143 [SV.own 0, iv (rMn (rIt (i.1) r (cgB a.1)))]]))) (fun h7 =>
 (⟨(i.1, i.2 + 1), by
   show [SV.i .i64 (wrap .i64 ((i.2 : Int) + 1))] = [iv ((i.2 + 1 : Nat) : Int)]; rw [n4 (e9 h5) hl], rfl, rfl, ⟨e9 h5, by have := hI.2.1; omega, g0f (e9 h5) (by unfold m3; rw [h6, h7]; rfl) hI.2.2⟩, a2a h5⟩ : Rnd (c4n r a.1 a.2.1) i [SV.i .i64 (wrap .i64 ((i.2 : Int) + 1))] [HB.arr (.sl .u8) 35 (rBk (rIt (i.1) r (cgB a.1)))] [a3w r, HB.box 143 [SV.own 0, iv (rMn (rIt (i.1) r (cgB a.1)))]]))) (fun h6 =>
 (⟨(i.1, i.2 + 1), by
   show [SV.i .i64 (wrap .i64 ((i.2 : Int) + 1))] = [iv ((i.2 + 1 : Nat) : Int)]; rw [n4 (e9 h5) hl], rfl, rfl, ⟨e9 h5, by have := hI.2.1; omega, g0f (e9 h5) (by unfold m3; rw [h6]; rfl) hI.2.2⟩, a2a h5⟩ : Rnd (c4n r a.1 a.2.1) i [SV.i .i64 (wrap .i64 ((i.2 : Int) + 1))] [HB.arr (.sl .u8) 35 (rBk (rIt (i.1) r (cgB a.1)))] [a3w r, HB.box 143 [SV.own 0, iv (rMn (rIt (i.1) r (cgB a.1)))]])))) (fun h5 =>
 have e : (rA r).drop i.2 = [] := I8 (by have := A9 h5; omega)
 (by
  have h := hI.2.2; rw [e] at h; rw [hP, h, show i.1 + (hg a.1 a.2.1 (a1w (cgB a.1)) []).1 = i.1 from rfl, d7g i.1]; rfl : some ((false, ()), r.1, (rMn (rIt i.1 r (cgB a.1)), ()), rBk (rIt i.1 r (cgB a.1)), ()) = some (a8y.post a r))))))
abbrev Γrt : Nat -> Option (Con D) := i5 (i5 (i5 (i5 (i5 noC 64 c1g) 23 a3r) 104 a0o) 62 x0) 88 a6e
abbrev Δrt : Nat -> Option (i8 D) := u6 (u6 (u6 (u6 noO 147 b7a) 101 b2y) 105 b7b) 109 a8y
def Krt : n3 EF Tp Γrt Δrt := ((((((((K0.c c4l).c b1c).c f1o).c c7b).c d6e).o d3n).o g0b).o g0e).o e6z
abbrev Zrt : ZF Tp D := (Z0.side Krt).skip
abbrev c7k (H : Nat -> Nat -> Option (Hint D)) (n : Nat) : j7 D := a4n EF Zrt Λof Γrt Δrt H n
def b6d (H : Nat -> Nat -> Option (Hint D)) (n : Nat) : j5 Tp (c7k H n) := a1b Lof Krt n
def c7l (r : RD) (c : b8) : d7 := ⟨8, rSf r, rGr r, rEp r, c.view, 0, a1w (cgB c), [], f0b, 0, c.node, b2s, [], [], 0, 0, [], [], []⟩
def b7c (r : RD) (c : b8) : d7 := ⟨7, rSf r, rGr r, rEp r, 0, 0, Dig.zero, [], f0b, 0, 0, c, [], [], 0, 0, [], [], []⟩
abbrev rOw (r : RD) (x : Int) : b8 := (fnd (rL r) x).getD b2s
abbrev rIs (r : RD) (x : Int) : Bool := (fnd (rL r) x).isSome
def b1r (r : RD) (c : b8) : (List d7 × Int × Unit) × RD :=
 bif (bif !j8 c then true else c.node != rSf r) then (([], 2, ()), r)
 else bif (bif rIs r (rSf r) then decide (c.view <= (rOw r (rSf r)).view) else false) then (([], 190, ()), r)
 else (([b7c r c], 0, ()), a6c r (a2d c false (rL r)))
def b0n : i8 D := { ash := [.nm 0, .dat (.st 3)], es := RS, rsh := [.dat (.sl (.st 7)), .dat .int], pes := RS, pre := some (fun _ r => okQ r), post := fun a r => b1r r a.1 }
def b0o (r : RD) (n : d7) : (List d7 × Int × Unit) × RD :=
 bif (bif (a0o.ret (n, ())).1 != 0 then true else (bif n.kind != 7 then n.kind != 8 else false)) then (([], 2, ()), r)
 else bif (bif n.group != rGr r then true else n.epoch != rEp r) then (([], 171, ()), r)
 else bif (bif (bif !(x0.ret (rCr r, n.sq, ())).1 then true else n.sq == rSf r) then true else (bif n.kind == 8 then !(x0.ret (rCr r, n.node, ())).1 else false)) then (([], 110, ()), r)
 else bif n.kind == 8 then (([], (akP n r).1.1, ()), (akP n r).2)
 else bif (bif rIs r n.sq then decide (n.change.view < (rOw r n.sq).view) else false) then (([], 190, ()), r)
 else bif (bif rIs r n.sq then (rOw r n.sq).view == n.change.view else false) then (([], bif !dq (α := b8) (rOw r n.sq) n.change then 151 else 0, ()), r)
 else (([c7l r n.change], 0, ()), b0m (a6c r (a2d n.change false (rL r))) (cgB n.change))
def a2k : i8 D := { ash := [.nm 0, .dat (.st 7)], es := RS, rsh := [.dat (.sl (.st 7)), .dat .int], pes := RS, pre := some (fun _ r => okQ r), post := fun a r => b0o r a.1 }
def b4s : i8 D := { ash := [.nm 0], es := RS, rsh := [.dat (.st 3), .dat .bool], pes := RS, pre := some (fun _ r => okQ r), post := fun _ r => ((rOw r (rSf r), rIs r (rSf r), ()), r) }
theorem e7a : b4s.looks EF Tp 71 := i8.proveL (c := b4s) EF Zrt (H := fun _ _ _ _ => none) (call := fun _ _ => c7k (fun _ _ => none) 2) (fun _ _ => b6d _ 2) fun (a : CL D b4s.ash) (r : RD) (hp : okQ r) =>
 pQ (okQ r) hp (rfl : some (rOw r (rSf r), rIs r (rSf r), ()) = some (b4s.post a r).1)
theorem g0g : b0n.ok EF Tp 65 := i8.proveH (c := b0n) EF Zrt (H := fun _ _ _ _ => none) (call := fun _ _ => c7k (fun _ _ => none) 2) (fun _ _ => b6d _ 2) fun (a : CL D b0n.ash) (r : RD) (hp : okQ r) =>
 bq (!j8 a.1) (fun h1 => (by
  show some (([], (2 : Int), ()), r) = some (b1r r a.1); unfold b1r; rw [h1]; rfl : some (([], (2 : Int), ()), r) = some (b0n.post a r))) (fun h1 =>
 have hb : bdC a.1 := c7h (a5i (b6x h1))
 bq (a.1.node != rSf r) (fun h2 => (by
  show some (([], (2 : Int), ()), r) = some (b1r r a.1); unfold b1r; rw [h1, h2]; rfl : some (([], (2 : Int), ()), r) = some (b0n.post a r))) (fun h2 =>
 pQ (okQ r) hp (
 bq (bif rIs r (rSf r) then decide (a.1.view <= (rOw r (rSf r)).view) else false) (fun h3 => (by
  show some (([], (190 : Int), ()), r) = some (b1r r a.1); unfold b1r; rw [h1, h2, h3]; rfl : some (([], (190 : Int), ()), r) = some (b0n.post a r))) (fun h3 =>
 pQ (okQ r /\ bdC a.1) ⟨hp, hb⟩ (
 pQ (bdC a.1) hb (
 (by
  show some (([b7c r a.1], (0 : Int), ()), a6c r (a2d a.1 false (rL r))) = some (b1r r a.1); unfold b1r; rw [h1, h2, h3]; rfl : some (([b7c r a.1], (0 : Int), ()), a6c r (a2d a.1 false (rL r))) = some (b0n.post a r))))))))
def f1w (r : RD) (n : d7) : (List d7 × Int × Unit) × RD := (([], (akP n r).1.1, ()), (akP n r).2)
def c1m (r : RD) (n : d7) : (List d7 × Int × Unit) × RD :=
 bif (bif rIs r n.sq then decide (n.change.view < (rOw r n.sq).view) else false) then (([], 190, ()), r)
 else bif (bif rIs r n.sq then (rOw r n.sq).view == n.change.view else false) then (([], bif !dq (α := b8) (rOw r n.sq) n.change then 151 else 0, ()), r)
 else (([c7l r n.change], 0, ()), b0m (a6c r (a2d n.change false (rL r))) (cgB n.change))
section
variable {r : RD} {n : d7} (h1 : ((a0o.ret (n, ())).1 != 0) = false) (hK : (bif n.kind != 7 then n.kind != 8 else false) = false)
include h1 hK
theorem d7h (h : (bif n.group != rGr r then true else n.epoch != rEp r) = true) : b0o r n = (([], 171, ()), r) := by
 unfold b0o; rw [h1, B8, hK, h]; rfl
theorem b6e (hg : (bif n.group != rGr r then true else n.epoch != rEp r) = false) (h : (bif (bif !(x0.ret (rCr r, n.sq, ())).1 then true else n.sq == rSf r) then true else (bif n.kind == 8 then !(x0.ret (rCr r, n.node, ())).1 else false)) = true) : b0o r n = (([], 110, ()), r) := by
 unfold b0o; rw [h1, B8, hK, hg, h]; rfl
theorem d7i (hg : (bif n.group != rGr r then true else n.epoch != rEp r) = false) (h : (bif (bif !(x0.ret (rCr r, n.sq, ())).1 then true else n.sq == rSf r) then true else (bif n.kind == 8 then !(x0.ret (rCr r, n.node, ())).1 else false)) = false) : b0o r n = bif n.kind == 8 then f1w r n else c1m r n := by
 unfold b0o f1w c1m; rw [h1, B8, hK, hg, h]; rfl
end
theorem g0h : a2k.ok EF Tp 69 := i8.proveH (c := a2k) EF Zrt (H := fun _ _ _ _ => none) (call := fun _ _ => c7k (fun _ _ => none) 2) (fun _ _ => b6d _ 2) fun (a : CL D a2k.ash) (r : RD) (hp : okQ r) =>
 have no2 (h : (bif (a0o.ret (a.1, ())).1 != 0 then true else (bif a.1.kind != 7 then a.1.kind != 8 else false)) = true) : some (([], (2 : Int), ()), r) = some (a2k.post a r) := by
  show some (([], (2 : Int), ()), r) = some (b0o r a.1); unfold b0o; rw [h]; rfl
 bq ((a0o.ret (a.1, ())).1 != 0) (fun h1 => (no2 (by rw [h1]; rfl) : some (([], (2 : Int), ()), r) = some (a2k.post a r))) (fun h1 =>
 have TAIL := fun (e : a2k.post a r = bif a.1.kind == 8 then f1w r a.1 else c1m r a.1) (hM : a.1.kind = 7 ∨ a.1.kind = 8) =>
  bq (a.1.kind == 8) (fun h => pQ (okQ r) hp (
   (by rw [e, h]; rfl : some (([], (akP a.1 r).1.1, ()), (akP a.1 r).2) = some (a2k.post a r)))) (fun h =>
  have e : a2k.post a r = c1m r a.1 := by rw [e, h]; rfl
  have hk : a.1.kind = 7 := hM.elim id fun h8 => by rw [h8] at h; exact absurd h (by decide)
  have hb : bdC a.1.change := by
   have h2 : (a0o.ret (a.1, ())).1 = 0 := by simpa using h1
   rw [rk7 hk] at h2; have h3 : b1p a.1 = true := by cases hn : b1p a.1 with | true => rfl | false => rw [hn] at h2; exact absurd (show (2 : Int) = 0 from h2) (by decide)
   unfold b1p at h3; rw [hk, show ((7 : Int) == 8) = false from rfl, B8] at h3; unfold c4i at h3; rw [A7] at h3; exact c7h (a5i (c6x h3.1).c)
  pQ (okQ r) hp (
  bq (bif rIs r a.1.sq then decide (a.1.change.view < (rOw r a.1.sq).view) else false) (fun h2 => (by
   rw [e]; unfold c1m; rw [h2]; rfl : some (([], (190 : Int), ()), r) = some (a2k.post a r))) (fun h2 =>
  bq (bif rIs r a.1.sq then (rOw r a.1.sq).view == a.1.change.view else false) (fun h3 =>
   bq (!dq (α := b8) (rOw r a.1.sq) a.1.change) (fun h4 => (by
    rw [e]; unfold c1m; rw [h2, h3, h4]; rfl : some (([], (151 : Int), ()), r) = some (a2k.post a r))) (fun h4 => (by
    rw [e]; unfold c1m; rw [h2, h3, h4]; rfl : some (([], (0 : Int), ()), r) = some (a2k.post a r)))) (fun h3 =>
  pQ (okQ r /\ bdC a.1.change) ⟨hp, hb⟩ (
  pQ ((rBk r).length <= 1000000000) (by have := hp.bk; omega) (
  (by
   rw [e]; unfold c1m; rw [h2, h3]; rfl : some (([c7l r a.1.change], (0 : Int), ()), b0m (a6c r (a2d a.1.change false (rL r))) (cgB a.1.change)) = some (a2k.post a r))))))))
 have MID := fun (hK : (bif a.1.kind != 7 then a.1.kind != 8 else false) = false) =>
  have hM : a.1.kind = 7 ∨ a.1.kind = 8 := by by_cases h : a.1.kind = 7 <;> simp [h] at hK ⊢; exact hK
  bq (a.1.group != rGr r) (fun h3 => ((congrArg some (d7h h1 hK (by rw [h3]; rfl))).symm : some (([], (171 : Int), ()), r) = some (a2k.post a r))) (fun h3 =>
  bq (a.1.epoch != rEp r) (fun h4 => ((congrArg some (d7h h1 hK (by rw [h3, h4]; rfl))).symm : some (([], (171 : Int), ()), r) = some (a2k.post a r))) (fun h4 =>
  have hg : (bif a.1.group != rGr r then true else a.1.epoch != rEp r) = false := by rw [h3, h4]; rfl
  bq (!(x0.ret (rCr r, a.1.sq, ())).1) (fun h5 => ((congrArg some (b6e h1 hK hg (by rw [h5]; rfl))).symm : some (([], (110 : Int), ()), r) = some (a2k.post a r))) (fun h5 =>
  bq (a.1.sq == rSf r) (fun h6 => ((congrArg some (b6e h1 hK hg (by rw [h5, h6]; rfl))).symm : some (([], (110 : Int), ()), r) = some (a2k.post a r))) (fun h6 =>
  bq (a.1.kind == 8) (fun h7 =>
   bq (!(x0.ret (rCr r, a.1.node, ())).1) (fun h8 => ((congrArg some (b6e h1 hK hg (by rw [h5, h6, h7, h8]; rfl))).symm : some (([], (110 : Int), ()), r) = some (a2k.post a r))) (fun h8 =>
    TAIL (d7i h1 hK hg (by rw [h5, h6, h7, h8]; rfl)) hM))
  (fun h7 => TAIL (d7i h1 hK hg (by rw [h5, h6, h7]; rfl)) hM)))))
 bq (a.1.kind != 7) (fun h2 =>
  bq (a.1.kind != 8) (fun h3 => (no2 (by rw [h1, h2, h3]; rfl) : some (([], (2 : Int), ()), r) = some (a2k.post a r))) (fun h3 => MID (by rw [h2, h3]; rfl)))
 (fun h2 => MID (by rw [h2]; rfl)))
abbrev bhQ (v : Int) (c : b8) : Bool := decide (v <= c.view)
def b7d : i8 D := { ash := [.nm 0, .dat .int], es := RS, rsh := [.dat .int], pes := RS, pre := some (fun _ r => okQ r), post := fun a r => ((((rL r).countP (bhQ a.1) : Nat), ()), r) }
def b7r (l : List b8) (q : b8 -> Bool) (s t : Nat) : LH D := ⟨Nat × Nat, [s, t], fun i => [iv (i.1 : Int), iv (i.2 : Int)], fun i => i.2 <= l.length /\ i.1 = (l.take i.2).countP q, fun i => l.length - i.2, [], fun _ => [], [], fun _ => []⟩
def bhH (a : CL D b7d.ash) (r : RD) : Nat -> Nat -> Option (Hint D) := fun f x => match f, x with
 | 75, 3 => some (.inv (b7r (rL r) (bhQ a.1) 5 6))
 | _, _ => none
abbrev jmQ (s w : Int) (c : b8) : Bool := bif c.node != s then decide (w <= c.view) else false
def jnT (r : RD) (x : b8) (b : Int) : Bool := bif (bif x.node != rSf r then decide ((a0m.ret (rCr r, ())).1 <= (((rL r).countP (jmQ (rSf r) x.view) : Nat) : Int)) else false) then decide (b < x.view) else false
def jbF (r : RD) : List b8 -> Int -> Int
 | [], b => b
 | x :: l, b => jbF r l (bif jnT r x b then x.view else b)
def b4t : i8 D := { ash := [.nm 0, .dat .int], es := RS, rsh := [.dat .int, .dat .bool], pes := RS, pre := some (fun _ r => okQ r), post := fun a r => ((bif jbF r (rL r) a.1 == a.1 then (0, false, ()) else (jbF r (rL r) a.1, true, ())), r) }
def b7e (r : RD) (v : Int) : LH D := ⟨Int × Nat, [6, 7], fun i => [iv i.1, iv (i.2 : Int)], fun i => i.2 <= (rL r).length /\ jbF r ((rL r).drop i.2) i.1 = jbF r (rL r) v, fun i => (rL r).length - i.2, [], fun _ => [], [], fun _ => []⟩
def jnH (a : CL D b4t.ash) (r : RD) : Nat -> Nat -> Option (Hint D) := fun f x => match f, x with
 | 74, 3 => some (.inv (b7e r a.1))
 | 74, 7 => some (.dep fun s => .inv (b7r (rL r) (jmQ (rSf r) (chA (rL r) (slI s 7).toNat).view) 8 9))
 | _, _ => none
abbrev Γjn : Nat -> Option (Con D) := i5 noC 110 a0m
def Kjn : n3 EF Tp Γjn noO := K0.c d0s
section
variable {l : List b8} {q : b8 -> Bool} {s t : Nat} {i : Nat × Nat} (hi : i.2 < l.length) (hl : l.length <= 1000) (hI : i.2 <= l.length /\ i.1 = (l.take i.2).countP q)
include hi hl hI in
theorem f4a (e : q (chA l i.2) = true) : Rnd (b7r l q s t) i [SV.i .i64 (wrap .i64 ((i.1 : Int) + 1)), SV.i .i64 (wrap .i64 ((i.2 : Int) + 1))] [] [] := by
 have h1 : i.1 <= 1000 := by rw [hI.2]; exact D5 O7 (by rw [C4]; omega)
 refine ⟨(i.1 + 1, i.2 + 1), ?_, rfl, rfl, ⟨hi, ?_⟩, by show l.length - (i.2 + 1) < l.length - i.2; omega⟩
 ·show _ = [iv ((i.1 + 1 : Nat) : Int), iv ((i.2 + 1 : Nat) : Int)]; rw [wr1 (by omega), wr1 (by omega)]
 ·show i.1 + 1 = (l.take (i.2 + 1)).countP q; rw [D9 hi, M3, <- hI.2]; rw [show chA l i.2 = l[i.2] from a2o hi] at e; simp [e]
include hi hl hI in
theorem e7b (e : q (chA l i.2) = false) : Rnd (b7r l q s t) i [SV.i .i64 (i.1 : Int), SV.i .i64 (wrap .i64 ((i.2 : Int) + 1))] [] [] := by
 refine ⟨(i.1, i.2 + 1), ?_, rfl, rfl, ⟨hi, ?_⟩, by show l.length - (i.2 + 1) < l.length - i.2; omega⟩
 ·show _ = [iv (i.1 : Int), iv ((i.2 + 1 : Nat) : Int)]; rw [wr1 (by omega)]
 ·show i.1 = (l.take (i.2 + 1)).countP q; rw [D9 hi, M3, <- hI.2]; rw [show chA l i.2 = l[i.2] from a2o hi] at e; simp [e]
end
theorem e7c {l : List b8} {q : b8 -> Bool} {s t : Nat} : Ent (b7r l q s t) [SV.i .i64 0, SV.i .i64 0] [] [] := ⟨((0 : Nat), (0 : Nat)), rfl, rfl, rfl, ⟨C0 _, rfl⟩⟩
theorem e7d {l : List b8} {q : b8 -> Bool} {i : Nat × Nat} (hI : i.2 <= l.length /\ i.1 = (l.take i.2).countP q) (h : decide ((i.2 : Int) < (l.length : Int)) = false) : i.1 = l.countP q := by
 have := A9 h
 rw [hI.2, show i.2 = l.length by omega, D1]
theorem g0i : b7d.looks EF Tp 75 := i8.proveL (c := b7d) EF ((Z0.side Kjn).skip) (H := fun a r => bhH a r) (call := fun _ _ => a0g EF ((Z0.side Kjn).skip) Γjn noO (fun _ _ => none) 2) (fun _ _ => m7 _ Kjn 2) fun (a : CL D b7d.ash) (r : RD) (hp : okQ r) =>
 And.intro (e7c : Ent (b7r (rL r) (bhQ a.1) 5 6) [SV.i .i64 0, SV.i .i64 0] [] []) (
 fun (i : Nat × Nat) (hI : i.2 <= (rL r).length /\ i.1 = ((rL r).take i.2).countP (bhQ a.1)) =>
 brL fun _ : (rL r).length <= d4 =>
 bq (decide ((i.2 : Int) < ((rL r).length : Nat))) (fun h3 =>
 bN (iX (i.2 : Int) (((rL r).length : Nat) : Int)) (ltD h3) (
 bq (decide (a.1 <= (chA (rL r) i.2).view)) (fun h4 => (f4a (e9 h3) hp.len hI h4 : Rnd (b7r (rL r) (bhQ a.1) 5 6) i [SV.i .i64 (wrap .i64 ((i.1 : Int) + 1)), SV.i .i64 (wrap .i64 ((i.2 : Int) + 1))] [] []))
  (fun h4 => (e7b (e9 h3) hp.len hI h4 : Rnd (b7r (rL r) (bhQ a.1) 5 6) i [SV.i .i64 (i.1 : Int), SV.i .i64 (wrap .i64 ((i.2 : Int) + 1))] [] [])))) (fun h3 =>
 (by
  rw [e7d hI h3]; rfl : some ((i.1 : Int), ()) = some (b7d.post a r).1)))
theorem g0j {r : RD} {v : Int} {i : Int × Nat} {b : Int} (hl : (rL r).length <= 1000) (hi : i.2 < (rL r).length) (hI : i.2 <= (rL r).length /\ jbF r ((rL r).drop i.2) i.1 = jbF r (rL r) v) (hb : (bif jnT r (chA (rL r) i.2) i.1 then (chA (rL r) i.2).view else i.1) = b) :
  Rnd (b7e r v) i [SV.i .i64 b, SV.i .i64 (wrap .i64 ((i.2 : Int) + 1))] [] [] := by
 refine ⟨(b, i.2 + 1), ?_, rfl, rfl, ⟨hi, ?_⟩, by show (rL r).length - (i.2 + 1) < (rL r).length - i.2; omega⟩
 ·show _ = [iv b, iv ((i.2 + 1 : Nat) : Int)]; rw [wr1 (by omega)]
 ·show jbF r ((rL r).drop (i.2 + 1)) b = jbF r (rL r) v; rw [<- hI.2, G9 hi, <- hb, show chA (rL r) i.2 = (rL r)[i.2] from a2o hi]; rfl
theorem g0k : b4t.looks EF Tp 74 := i8.proveL (c := b4t) EF ((Z0.side Kjn).skip) (H := fun a r => jnH a r) (call := fun _ _ => a0g EF ((Z0.side Kjn).skip) Γjn noO (fun _ _ => none) 2) (fun _ _ => m7 _ Kjn 2) fun (a : CL D b4t.ash) (r : RD) (hp : okQ r) =>
 And.intro (⟨(a.1, (0 : Nat)), rfl, rfl, rfl, ⟨C0 _, rfl⟩⟩ : Ent (b7e r a.1) [SV.i .i64 a.1, SV.i .i64 0] [] []) (
 fun (i : Int × Nat) (hI : i.2 <= (rL r).length /\ jbF r ((rL r).drop i.2) i.1 = jbF r (rL r) a.1) =>
 brL fun _ : (rL r).length <= d4 =>
 bq (decide ((i.2 : Int) < ((rL r).length : Nat))) (fun h3 =>
 And.intro (e7c : Ent (b7r (rL r) (jmQ (rSf r) (chA (rL r) i.2).view) 8 9) [SV.i .i64 0, SV.i .i64 0] [] []) (
 fun (j : Nat × Nat) (hJ : j.2 <= (rL r).length /\ j.1 = ((rL r).take j.2).countP (jmQ (rSf r) (chA (rL r) i.2).view)) =>
 brL fun _ : (rL r).length <= d4 =>
 bq (decide ((j.2 : Int) < ((rL r).length : Nat))) (fun h6 =>
 bN (iX (j.2 : Int) (((rL r).length : Nat) : Int)) (ltD h6) (
 bq ((chA (rL r) j.2).node != rSf r) (fun h7 =>
 bN (iX (j.2 : Int) (((rL r).length : Nat) : Int)) (ltD h6) (
 bN (iX (i.2 : Int) (((rL r).length : Nat) : Int)) (ltD h3) (
 bq (decide ((chA (rL r) i.2).view <= (chA (rL r) j.2).view)) (fun h8 => (f4a (e9 h6) hp.len hJ (by show jmQ _ _ _ = true; unfold jmQ; rw [h7, h8]; rfl) : Rnd (b7r (rL r) (jmQ (rSf r) (chA (rL r) i.2).view) 8 9) j [SV.i .i64 (wrap .i64 ((j.1 : Int) + 1)), SV.i .i64 (wrap .i64 ((j.2 : Int) + 1))] [] []))
  (fun h8 => (e7b (e9 h6) hp.len hJ (by show jmQ _ _ _ = false; unfold jmQ; rw [h7, h8]; rfl) : Rnd (b7r (rL r) (jmQ (rSf r) (chA (rL r) i.2).view) 8 9) j [SV.i .i64 (j.1 : Int), SV.i .i64 (wrap .i64 ((j.2 : Int) + 1))] [] [])))))
 (fun h7 => (e7b (e9 h6) hp.len hJ (by show jmQ _ _ _ = false; unfold jmQ; rw [h7]; rfl) : Rnd (b7r (rL r) (jmQ (rSf r) (chA (rL r) i.2).view) 8 9) j [SV.i .i64 (j.1 : Int), SV.i .i64 (wrap .i64 ((j.2 : Int) + 1))] [] [])))) (fun h6 =>
 have ej := e7d hJ h6
 have st (b : Int) (hb : (bif jnT r (chA (rL r) i.2) i.1 then (chA (rL r) i.2).view else i.1) = b) : Rnd (b7e r a.1) i [SV.i .i64 b, SV.i .i64 (wrap .i64 ((i.2 : Int) + 1))] [] [] := g0j hp.len (e9 h3) hI hb
 bN (iX (i.2 : Int) (((rL r).length : Nat) : Int)) (ltD h3) (
 bq ((chA (rL r) i.2).node != rSf r) (fun h7 =>
 bq (decide ((a0m.ret (rCr r, ())).1 <= (j.1 : Int))) (fun h8 =>
 bN (iX (i.2 : Int) (((rL r).length : Nat) : Int)) (ltD h3) (
 bq (decide (i.1 < (chA (rL r) i.2).view)) (fun h9 =>
 bN (iX (i.2 : Int) (((rL r).length : Nat) : Int)) (ltD h3) (
 (st _ (by rw [ej] at h8; unfold jnT; rw [h7, h8, h9]; rfl) : Rnd (b7e r a.1) i [SV.i .i64 (chA (rL r) i.2).view, SV.i .i64 (wrap .i64 ((i.2 : Int) + 1))] [] []))) (fun h9 =>
 (st _ (by rw [ej] at h8; unfold jnT; rw [h7, h8, h9]; rfl) : Rnd (b7e r a.1) i [SV.i .i64 i.1, SV.i .i64 (wrap .i64 ((i.2 : Int) + 1))] [] [])))) (fun h8 =>
 (st _ (by rw [ej] at h8; unfold jnT; rw [h7, h8]; rfl) : Rnd (b7e r a.1) i [SV.i .i64 i.1, SV.i .i64 (wrap .i64 ((i.2 : Int) + 1))] [] []))) (fun h7 =>
 (st _ (by unfold jnT; rw [h7]; rfl) : Rnd (b7e r a.1) i [SV.i .i64 i.1, SV.i .i64 (wrap .i64 ((i.2 : Int) + 1))] [] [])))))) (fun h3 =>
 have e : i.1 = jbF r (rL r) a.1 := by
  have h := hI.2; rw [I8 (by have := A9 h3; omega)] at h
  exact h
 bq (i.1 == a.1) (fun h4 => (by
  show some ((0 : Int), false, ()) = some (bif jbF r (rL r) a.1 == a.1 then (0, false, ()) else (jbF r (rL r) a.1, true, ())); rw [<- e, h4]; rfl : some ((0 : Int), false, ()) = some (b4t.post a r).1)) (fun h4 => (by
  show some (i.1, true, ()) = some (bif jbF r (rL r) a.1 == a.1 then (0, false, ()) else (jbF r (rL r) a.1, true, ())); rw [<- e, h4]; rfl : some (i.1, true, ()) = some (b4t.post a r).1))))
abbrev sN (r st : RD) : RD := (r.1, (rMn st, ()), rBk st, ())
abbrev rhE (r : RD) (c : b8) (x : Int) : RD := sN r (rhP r c x).2
theorem g8h {r : RD} {c : b8} {x : Int} : (rhP r c x).2.1 = r.1 := by
 unfold rhP
 cases x == c.node with
 | true => rfl
 | false => cases x == rSf r with
  | true => rfl
  | false => exact e6y _
theorem g0l {r : RD} {c : b8} {x : Int} : (rhP r c x).2 = rhE r c x := by
 show (rhP r c x).2 = (r.1, (rMn (rhP r c x).2, ()), rBk (rhP r c x).2, ())
 rw [<- g8h (c := c) (x := x)]
theorem d3p {r : RD} {c : b8} {x : Int} : (rBk (rhP r c x).2).length <= (rBk r).length + 1 := by
 unfold rhP
 cases x == c.node with
 | true => exact R4 _
 | false => cases x == rSf r with
  | true => exact R4 _
  | false => exact d7f
def d7j : i8 D := { ash := [.nm 0, .dat (.st 3), .dat .int], es := RS, rsh := [.dat .bool], pes := RS, pre := some (fun _ r => okQ r), post := fun a r => ((rhP r a.1 a.2.1).1, rhE r a.1 a.2.1) }
theorem g0m : d7j.ok EF Tp 109 := by
 have e : d7j = a8y := by
  unfold d7j a8y
  congr 1
  funext a r
  show ((rhP r a.1 a.2.1).1, rhE r a.1 a.2.1) = rhP r a.1 a.2.1; rw [<- g0l]
 rw [e]; exact e6z
def hsF (w : Bool) (c : b8) : RD -> List Int -> Nat × RD
 | r, [] => (0, r)
 | r, x :: l => bif (bif w then x != rSf r else true) then ((bif (rhP r c x).1.1 then 1 else 0) + (hsF w c (rhE r c x) l).1, (hsF w c (rhE r c x) l).2) else hsF w c r l
theorem g6d {w : Bool} {c : b8} : ∀ {l : List Int} {r : RD}, (hsF w c r l).2.1 = r.1
 | [], r => rfl
 | x :: l, r => by
  unfold hsF; cases (bif w then x != rSf r else true) with
  | true => exact g6d (l := l) (r := rhE r c x)
  | false => exact g6d (l := l)
theorem c1n {w : Bool} {c : b8} : ∀ {l : List Int} {r : RD}, (rBk (hsF w c r l).2).length <= (rBk r).length + l.length
 | [], r => B9 _
 | x :: l, r => by
  unfold hsF; rw [I3]; cases (bif w then x != rSf r else true) with
  | true =>
   have h1 := c1n (w := w) (c := c) (l := l) (r := rhE r c x); have h2 := d3p (r := r) (c := c) (x := x); show (rBk (hsF w c (rhE r c x) l).2).length <= _; change _ <= (rBk (rhP r c x).2).length + _ at h1; omega
  | false =>
   have h1 := c1n (w := w) (c := c) (l := l) (r := r); show (rBk (hsF w c r l).2).length <= _; omega
structure hvI (r r0 : RD) (w : Bool) (c : b8) (i : Nat × RD × Nat) : Prop where
  j : i.2.2 <= (rCr r).nodes.length
  n : i.1 <= i.2.2
  e : i.2.1.1 = r.1
  b : (rBk i.2.1).length <= (rBk r0).length + i.2.2
  h : hsF w c r0 (rCr r).nodes = (i.1 + (hsF w c i.2.1 ((rCr r).nodes.drop i.2.2)).1, (hsF w c i.2.1 ((rCr r).nodes.drop i.2.2)).2)
def c1o (r r0 : RD) (w : Bool) (c : b8) (s t : Nat) (I : Nat × RD × Nat -> Prop) : LH D := ⟨Nat × RD × Nat, [s, t], fun i => [iv (i.1 : Int), iv (i.2.2 : Int)], I, fun i => (rCr r).nodes.length - i.2.2, [(.bx 1 0, .sl .u8, 35)], fun i => [.arr (.sl .u8) 35 (rBk i.2.1)], [0, 1], fun i => [a3w r, .box 143 [.own 0, iv (rMn i.2.1)]]⟩
section
variable {r r0 : RD} {w : Bool} {c : b8} {i : Nat × RD × Nat} (hI : hvI r r0 w c i) (hj : i.2.2 < (rCr r).nodes.length)
include hI in
theorem g6e : i.2.1 = sN r i.2.1 := by
 show i.2.1 = (r.1, (rMn i.2.1, ()), rBk i.2.1, ())
 rw [<- hI.e]
include hI hj in
theorem c7m : hsF w c i.2.1 ((rCr r).nodes.drop i.2.2) = bif (bif w then (iA (rCr r).nodes i.2.2) != rSf r else true) then ((bif (rhP (sN r i.2.1) c (iA (rCr r).nodes i.2.2)).1.1 then 1 else 0) + (hsF w c (rhE (sN r i.2.1) c (iA (rCr r).nodes i.2.2)) ((rCr r).nodes.drop (i.2.2 + 1))).1, (hsF w c (rhE (sN r i.2.1) c (iA (rCr r).nodes i.2.2)) ((rCr r).nodes.drop (i.2.2 + 1))).2) else hsF w c i.2.1 ((rCr r).nodes.drop (i.2.2 + 1)) := by
 rw [G9 hj, show iA (rCr r).nodes i.2.2 = (rCr r).nodes[i.2.2] from a2o hj, g6e hI]; rfl
include hI hj in
theorem g6f (hw : (bif w then (iA (rCr r).nodes i.2.2) != rSf r else true) = true) (hb : (rhP (sN r i.2.1) c (iA (rCr r).nodes i.2.2)).1.1 = true) : hvI r r0 w c (i.1 + 1, rhE (sN r i.2.1) c (iA (rCr r).nodes i.2.2), i.2.2 + 1) := by
 refine ⟨hj, by have := hI.n; show i.1 + 1 <= i.2.2 + 1; omega, rfl, ?_, ?_⟩
 ·have h1 := d3p (r := sN r i.2.1) (c := c) (x := iA (rCr r).nodes i.2.2); have h2 := hI.b; show (rBk (rhP (sN r i.2.1) c (iA (rCr r).nodes i.2.2)).2).length <= _; change _ <= (rBk i.2.1).length + 1 at h1; show _ <= (rBk r0).length + (i.2.2 + 1); omega
 ·rw [hI.h, c7m hI hj, hw, hb, B5, B5, <- I6]
include hI hj in
theorem g6g (hw : (bif w then (iA (rCr r).nodes i.2.2) != rSf r else true) = true) (hb : (rhP (sN r i.2.1) c (iA (rCr r).nodes i.2.2)).1.1 = false) : hvI r r0 w c (i.1, rhE (sN r i.2.1) c (iA (rCr r).nodes i.2.2), i.2.2 + 1) := by
 refine ⟨hj, by have := hI.n; show i.1 <= i.2.2 + 1; omega, rfl, ?_, ?_⟩
 ·have h1 := d3p (r := sN r i.2.1) (c := c) (x := iA (rCr r).nodes i.2.2); have h2 := hI.b; show (rBk (rhP (sN r i.2.1) c (iA (rCr r).nodes i.2.2)).2).length <= _; change _ <= (rBk i.2.1).length + 1 at h1; show _ <= (rBk r0).length + (i.2.2 + 1); omega
 ·rw [hI.h, c7m hI hj, hw, hb, B5, B8, F2]
include hI hj in
theorem g8i (hw : (bif w then (iA (rCr r).nodes i.2.2) != rSf r else true) = false) : hvI r r0 w c (i.1, i.2.1, i.2.2 + 1) := by
 refine ⟨hj, by have := hI.n; show i.1 <= i.2.2 + 1; omega, hI.e, P4 hI.b, ?_⟩
 rw [hI.h, c7m hI hj, hw, B8]
end
structure okV (r : RD) : Prop where
  q : okQ r
  bk : (rBk r).length <= 800000000
  nd : (rCr r).nodes.length <= 1000
def a7v (r : RD) (c : b8) : (Bool × Unit) × RD :=
 bif (bif !j8 c then true else !(x0.ret (rCr r, c.node, ())).1) then ((false, ()), r)
 else bif (bif rIs r c.node then dq (α := b8) (rOw r c.node) c else false) then ((true, ()), r)
 else ((decide ((a0m.ret (rCr r, ())).1 <= ((hsF false c r (rCr r).nodes).1 : Int)), ()), sN r (hsF false c r (rCr r).nodes).2)
def a4v : i8 D := { ash := [.nm 0, .dat (.st 3)], es := RS, rsh := [.dat .bool], pes := RS, pre := some (fun _ r => okV r), post := fun a r => a7v r a.1 }
abbrev Γvc : Nat -> Option (Con D) := i5 (i5 (i5 (i5 (i5 noC 64 c1g) 23 a3r) 110 a0m) 62 x0) 88 a6e
abbrev Δvc : Nat -> Option (i8 D) := u6 (u6 noO 109 d7j) 147 b7a
theorem Kvc : n3 EF Tp Γvc Δvc := ((((((K0.c c4l).c b1c).c d0s).c c7b).c d6e).o g0m).o d3n
abbrev Λow : Nat -> Option (i8 D) := u6 Λof 71 b4s
theorem Low : a0r EF Tp Λow := Lof.o e7a
abbrev Zvc : ZF Tp D := (Z0.side Kvc).skip
abbrev d7k (H : Nat -> Nat -> Option (Hint D)) (n : Nat) : j7 D := a4n EF Zvc Λow Γvc Δvc H n
theorem c1p (H : Nat -> Nat -> Option (Hint D)) (n : Nat) : j5 Tp (d7k H n) := a1b Low Kvc n
def vcH (a : CL D a4v.ash) (r : RD) : Nat -> Nat -> Option (Hint D) := fun f x => match f, x with
 | 73, 8 => some (.inv (c1o r r false a.1 7 8 (hvI r r false a.1)))
 | _, _ => none
section
variable {r r0 : RD} {w : Bool} {c : b8} {s t : Nat} {i : Nat × RD × Nat}
def f4b {st : RD} (hn : (rCr r).nodes.length <= 1000) (hI : hvI r r0 w c i) (hj : i.2.2 < (rCr r).nodes.length) (h : hvI r r0 w c (i.1 + 1, st, i.2.2 + 1)) :
  Rnd (c1o r r0 w c s t (hvI r r0 w c)) i [SV.i .i64 (wrap .i64 ((i.1 : Int) + 1)), SV.i .i64 (wrap .i64 ((i.2.2 : Int) + 1))] [HB.arr (.sl .u8) 35 (rBk st)] [a3w r, .box 143 [.own 0, iv (rMn st)]] := by
 have := hI.n
 refine ⟨(i.1 + 1, st, i.2.2 + 1), ?_, rfl, rfl, h, by show (rCr r).nodes.length - (i.2.2 + 1) < (rCr r).nodes.length - i.2.2; omega⟩
 show _ = [iv ((i.1 + 1 : Nat) : Int), iv ((i.2.2 + 1 : Nat) : Int)]
 rw [wr1 (by omega), wr1 (by omega)]
def e7e {st : RD} (hn : (rCr r).nodes.length <= 1000) (hj : i.2.2 < (rCr r).nodes.length) (h : hvI r r0 w c (i.1, st, i.2.2 + 1)) :
  Rnd (c1o r r0 w c s t (hvI r r0 w c)) i [SV.i .i64 (i.1 : Int), SV.i .i64 (wrap .i64 ((i.2.2 : Int) + 1))] [HB.arr (.sl .u8) 35 (rBk st)] [a3w r, .box 143 [.own 0, iv (rMn st)]] := by
 refine ⟨(i.1, st, i.2.2 + 1), ?_, rfl, rfl, h, by show (rCr r).nodes.length - (i.2.2 + 1) < (rCr r).nodes.length - i.2.2; omega⟩
 show _ = [iv (i.1 : Int), iv ((i.2.2 + 1 : Nat) : Int)]
 rw [wr1 (by omega)]
def e7f (hb : (rBk r0).length <= 890000000) (hn : (rCr r).nodes.length <= 1000) (hq : okQ r) (hI : hvI r r0 w c i) : okQ (sN r i.2.1) :=
 ⟨by have h1 := hI.b; have h2 := hI.j; show (rBk i.2.1).length <= 900000000; omega, hq.len, hq.ch, hq.al⟩
def e7g (hI : hvI r r0 w c i) (h : decide ((i.2.2 : Int) < ((rCr r).nodes.length : Int)) = false) : hsF w c r0 (rCr r).nodes = (i.1, i.2.1) := by
 have hh := hI.h
 rw [I8 (by have := A9 h; omega)] at hh
 exact hh
end
def g0n : a4v.ok EF Tp 73 := i8.proveH (c := a4v) EF Zvc (H := fun a r => vcH a r) (call := fun _ _ => d7k (fun _ _ => none) 1) (fun _ _ => c1p _ 1) fun (a : CL D a4v.ash) (r : RD) (hp : okV r) =>
 bq (!j8 a.1) (fun h1 => (by
  show some ((false, ()), r) = some (a7v r a.1); unfold a7v; rw [h1]; rfl : some ((false, ()), r) = some (a4v.post a r))) (fun h1 =>
 bq (!(x0.ret (rCr r, a.1.node, ())).1) (fun h2 => (by
  show some ((false, ()), r) = some (a7v r a.1); unfold a7v; rw [h1, h2]; rfl : some ((false, ()), r) = some (a4v.post a r))) (fun h2 =>
 pQ (okQ r) hp.q (
 bq (bif rIs r a.1.node then dq (α := b8) (rOw r a.1.node) a.1 else false) (fun h3 => (by
  show some ((true, ()), r) = some (a7v r a.1); unfold a7v; rw [h1, h2, h3]; rfl : some ((true, ()), r) = some (a4v.post a r))) (fun h3 =>
 And.intro (⟨((0 : Nat), r, (0 : Nat)), rfl, rfl, rfl, ⟨C0 _, B9 _, rfl, B9 _, by rw [F2]; rfl⟩⟩ : Ent (c1o r r false a.1 7 8 (hvI r r false a.1)) [SV.i .i64 0, SV.i .i64 0] [HB.arr (.sl .u8) 35 (rBk r)] [a3w r, .box 143 [.own 0, iv (rMn r)]]) (
 fun (i : Nat × RD × Nat) (hI : hvI r r false a.1 i) =>
 brL fun _ : (rCr r).nodes.length <= d4 =>
 bq (decide ((i.2.2 : Int) < ((rCr r).nodes.length : Nat))) (fun h6 =>
 bN (iX (i.2.2 : Int) (((rCr r).nodes.length : Nat) : Int)) (ltD h6) (
 pQ (okQ (sN r i.2.1)) (e7f (by have := hp.bk; omega) hp.nd hp.q hI) (
 bq ((rhP (sN r i.2.1) a.1 (iA (rCr r).nodes i.2.2)).1.1) (fun h7 => (f4b hp.nd hI (e9 h6) (g6f hI (e9 h6) rfl h7) : Rnd (c1o r r false a.1 7 8 (hvI r r false a.1)) i [SV.i .i64 (wrap .i64 ((i.1 : Int) + 1)), SV.i .i64 (wrap .i64 ((i.2.2 : Int) + 1))] [HB.arr (.sl .u8) 35 (rBk (rhE (sN r i.2.1) a.1 (iA (rCr r).nodes i.2.2)))] [a3w r, .box 143 [.own 0, iv (rMn (rhE (sN r i.2.1) a.1 (iA (rCr r).nodes i.2.2)))]]))
  (fun h7 => (e7e hp.nd (e9 h6) (g6g hI (e9 h6) rfl h7) : Rnd (c1o r r false a.1 7 8 (hvI r r false a.1)) i [SV.i .i64 (i.1 : Int), SV.i .i64 (wrap .i64 ((i.2.2 : Int) + 1))] [HB.arr (.sl .u8) 35 (rBk (rhE (sN r i.2.1) a.1 (iA (rCr r).nodes i.2.2)))] [a3w r, .box 143 [.own 0, iv (rMn (rhE (sN r i.2.1) a.1 (iA (rCr r).nodes i.2.2)))]]))))) (fun h6 =>
 (by
  show some ((decide ((a0m.ret (rCr r, ())).1 <= (i.1 : Int)), ()), sN r i.2.1) = some (a7v r a.1); unfold a7v; rw [h1, h2, h3, e7g hI h6]; rfl : some ((decide ((a0m.ret (rCr r, ())).1 <= (i.1 : Int)), ()), sN r i.2.1) = some (a4v.post a r))))))))
end
end Go.Proofs.YtpbcabanpppfoaaGreat
