/- A part of the proof. No condition. -/
import Derived.Test.YtpbcabanpppfoaaGreatA13
set_option linter.all false
namespace Go.Proofs.YtpbcabanpppfoaaGreat
open Go Go.Gx Go.Vz
open Go.IntKind (wrap)
open List (flatMap getD length take replicate)
set_option maxRecDepth 100000
noncomputable section
def a6h {c : i4} (h : n8 c = true) : okC c := by
 obtain ⟨h1, h2, h3⟩ := a2m h
 have := h1.l; have := a9i h2; have := a9j h3
 exact ⟨by omega, by omega, by omega⟩
def d8b {c : i4} (h : n8 c = true) : (j0 c).length <= 6000 := by
 obtain ⟨h1, h2, h3⟩ := a2m h
 have q := o6 (f := i6) (k := 3) (i := c.q.length) a0s (b1i (c := c) (by have := h1.l; omega) (a9i h2)) (a9j h3)
 rw [D1, d7v] at q
 exact D5 q (by decide)
def d8c {c : i4} (h : n8 c = true) : dgW c = dgS c := by unfold dgW; rw [h]; rfl
def g8b {k : KD} {c : i4} (h : n8 c = false) : kIg k c = k := by unfold kIg; rw [h]; rfl
def g1u {k : KD} (h : okK k) (c : i4) : okK (kIg k c) := ⟨h.nodes, h.s1, h.s2, h.len, h.ch⟩
def g1v : c2j.ok EF Tp 42 := j8.proveH (c := c2j) EF Zkg (H := fun _ _ _ _ => none) (call := fun _ _ => a5m EF Zkg Λh Γkg g1s (fun _ _ => none) 3) (fun _ _ => a1t Lh g1t 3) fun (a : CL D c2j.ash) (k : KD) (_ : c2j.holds a k) =>
 bq ((b0a.ret a).2.1 != 0) (fun h1 => (by
  have hm : n8 a.1 = false := by
   have h1 : ((bif n8 a.1 then (j0 a.1, (0 : Int), ()) else ([], 2, ()) : HL D [.sl .u8, .int]).2.1 != 0) = true := h1; cases h : n8 a.1 with
   | false => rfl
   | true => rw [h] at h1; exact absurd (show ((0 : Int) != 0) = true from h1) (by decide)
  show some ((d0v, false, ()), k) = some ((dgW a.1, n8 a.1, ()), kIg k a.1); rw [g8b hm, hm]; unfold dgW; rw [hm]; rfl : some ((d0v, false, ()), k) = some (c2j.post a k))) (fun h1 =>
 have hm : n8 a.1 = true := by
  have h1 : ((bif n8 a.1 then (j0 a.1, (0 : Int), ()) else ([], 2, ()) : HL D [.sl .u8, .int]).2.1 != 0) = false := h1; cases h : n8 a.1 with
  | true => rfl
  | false => rw [h] at h1; exact absurd (show ((2 : Int) != 0) = false from h1) (by decide)
 have hb : (b0a.ret a).1 = j0 a.1 := by
  show (bif n8 a.1 then (j0 a.1, (0 : Int), ()) else ([], 2, ()) : HL D [.sl .u8, .int]).1 = _; rw [hm]; rfl
 have hc := a6h hm
 pQ ((b0a.ret a).1.length <= 65536) (by rw [hb]; have := d8b hm; omega) (
 pQ (a.1.mz.length <= 1000000) hc.1 (
 pQ (a.1.p.length <= 1000000) hc.2.1 (
 pQ (a.1.q.length <= 1000000) hc.2.2 (
 (by
  rw [hb]; show some (((⟨a.1, a5c (j0 a.1)⟩ : a0f), true, ()), a2f k (j0 a.1)) = some ((dgW a.1, n8 a.1, ()), kIg k a.1); rw [d8c hm, hm]; unfold kIg; rw [hm]; rfl : some (((⟨a.1, a5c (b0a.ret a).1⟩ : a0f), true, ()), a2f k (b0a.ret a).1) = some (c2j.post a k)))))))
def g1w : o8 EF Tp Γkg f3i := (g1t.o g1v).o d0x
abbrev d8d (H : Nat -> Nat -> Option (Hint D)) (n : Nat) : n3 D := c1a 53 94 (a5m EF Zkg Λh Γkg f3i H n)
def c2k (H : Nat -> Nat -> Option (Hint D)) (n : Nat) : n4 Tp (d8d H n) := b0r b0s (a1t Lh g1w n)
def c8f (k : KD) (c : i4) : (Bool × Unit) × KD := bif !b6y (kCr k) c.node then ((false, ()), k) else bif !n8 c then ((false, ()), kIg k c) else ((a9y k c, ()), kIg k c)
def a5g : j8 D := { ash := [.nm 0, .dat (.st 3)], es := KS, rsh := [.dat .bool], pes := KS, pre := some (fun _ k => okK k), post := fun a k => c8f k a.1 }
def g1x : a5g.ok EF Tp 20 := j8.proveH (c := a5g) EF Zkg (H := fun _ _ _ _ => none) (call := fun _ _ => d8d (fun _ _ => none) 3) (fun _ _ => c2k _ 3) fun (a : CL D a5g.ash) (k : KD) (hp : a5g.holds a k) =>
 have hp : okK k := hp
 bq (!b6y (kCr k) a.1.node) (fun h1 => (by simp only [a5g, c8f, h1, B5] : some ((false, ()), k) = some (a5g.post a k))) (fun h1 =>
 bq (!n8 a.1) (fun h2 => (by simp only [a5g, c8f, h1, h2, B5, B8] : some ((false, ()), kIg k a.1) = some (a5g.post a k))) (fun h2 =>
 have ew : dgW a.1 = dgS a.1 := d8c (b8c h2)
 have g2 := g1u hp a.1
 have e (b : Bool) (hb : a9y k a.1 = b) : some ((b, ()), kIg k a.1) = some (a5g.post a k) := by simp only [a5g, c8f, h1, h2, B8, hb]
 bq ((sdO (kCh k) a.1.node).isSome) (fun h3 =>
  bq (dq (α := i4) (sd (kCh k) a.1.node).change (dgW a.1).change) (fun h4 =>
   (e true (by rw [ew] at h4; unfold a9y; rw [h3, h4]; rfl) : some ((true, ()), kIg k a.1) = some (a5g.post a k)))
  (fun h4 => pQ (okK (kIg k a.1)) g2 (
   (e _ (by rw [ew] at h4 ⊢; unfold a9y; rw [h3, h4]; rfl) : some ((decide (a1y (kCr k) <= (hrN k (dgW a.1) 0 : Int)), ()), kIg k a.1) = some (a5g.post a k)))))
 (fun h3 => pQ (okK (kIg k a.1)) g2 (
   (e _ (by rw [ew]; unfold a9y; rw [h3]; rfl) : some ((decide (a1y (kCr k) <= (hrN k (dgW a.1) 0 : Int)), ()), kIg k a.1) = some (a5g.post a k))))))
def lvG (k : KD) (c : i4) : (List i8 × Int × Unit) × KD := bif !n8 c then (([], 2, ()), kIg k c) else bif c.node != kSf k then (([], 2, ()), kIg k c) else bif decide (c.view <= (sd (kCh k) (kSf k)).change.view) then (([], 190, ()), kIg k c)
 else (([b5g k c], 0, ()), c1v (kIg k c) (m9 (E := D) .int (.st 8) (kCh k) (kSf k) (dgW c)))
def a5t : j8 D := { ash := [.nm 0, .dat (.st 3)], es := KS, rsh := [.dat (.sl (.st 7)), .dat .int], pes := KS, post := fun a k => lvG k a.1 }
def g1y : a5t.ok EF Tp 26 := j8.proveH (c := a5t) EF Zkg (H := fun _ _ _ _ => none) (call := fun _ _ => d8d (fun _ _ => none) 3) (fun _ _ => c2k _ 3) fun (a : CL D a5t.ash) (k : KD) (_ : a5t.holds a k) =>
 bq (!n8 a.1) (fun h1 => (by simp only [a5t, lvG, h1, B5] : some (([], (2 : Int), ()), kIg k a.1) = some (a5t.post a k))) (fun h1 =>
 have hc := a6h (b8c h1)
 bq (a.1.node != kSf k) (fun h2 => (by simp only [a5t, lvG, h1, h2, B5, B8] : some (([], (2 : Int), ()), kIg k a.1) = some (a5t.post a k))) (fun h2 =>
 bq (decide (a.1.view <= (sd (kCh k) (kSf k)).change.view)) (fun h3 => (by simp only [a5t, lvG, h1, h2, h3, B5, B8] : some (([], (190 : Int), ()), kIg k a.1) = some (a5t.post a k))) (fun h3 =>
 pQ (a.1.mz.length <= 1000000) hc.1 (
 pQ (a.1.p.length <= 1000000) hc.2.1 (
 pQ (a.1.q.length <= 1000000) hc.2.2 (
 (by simp only [a5t, lvG, h1, h2, h3, B8] : some (([b5g k a.1], (0 : Int), ()), c1v (kIg k a.1) (m9 (E := D) .int (.st 8) (kCh k) (kSf k) (dgW a.1))) = some (a5t.post a k))))))))
def c3q (k : KD) (n : i8) : (List i8 × Int × Unit) × KD :=
 bif decide ((dgW n.change).change.view < (sd (kCh k) n.sq).change.view) then (([], 190, ()), kIg k n.change)
 else bif (bif (sd (kCh k) n.sq).change.view == (dgW n.change).change.view then !dq (α := i4) (sd (kCh k) n.sq).change (dgW n.change).change else false) then (([], 151, ()), kIg k n.change)
 else bif (sd (kCh k) n.sq).change.view == (dgW n.change).change.view then (([], 0, ()), kIg k n.change)
 else (([a3b k (dgW n.change)], 0, ()), c1v (kIg k n.change) (m9 (E := D) .int (.st 8) (kCh k) n.sq (dgW n.change)))
def tkG (k : KD) (n : i8) : (List i8 × Int × Unit) × KD :=
 bif (bif !(n.kind == 8) then n.kind != 7 else false) then (([], 2, ()), k)
 else bif (d4p.ret (n, ())).1 != 0 then (([], 2, ()), k)
 else bif n.group != kGr k then (([], 171, ()), k)
 else bif n.epoch != kEp k then (([], 171, ()), k)
 else bif !b6y (kCr k) n.sq then (([], 110, ()), k)
 else bif n.sq == kSf k then (([], 110, ()), k)
 else bif n.kind == 8 then (bif !b6y (kCr k) n.node then (([], 110, ()), k) else (([], (a1l k n).1.1, ()), (a1l k n).2))
 else c3q k n
def a1k : j8 D := { ash := [.nm 0, .dat (.st 7)], es := KS, rsh := [.dat (.sl (.st 7)), .dat .int], pes := KS, post := fun a k => tkG k a.1 }
def g1z : a1k.ok EF Tp 12 := j8.proveH (c := a1k) EF Zkg (H := fun _ _ _ _ => none) (call := fun _ _ => d8d (fun _ _ => none) 3) (fun _ _ => c2k _ 3) fun (a : CL D a1k.ash) (k : KD) (_ : a1k.holds a k) =>
 bq (bif !(a.1.kind == 8) then a.1.kind != 7 else false) (fun h1 => (by simp only [a1k, tkG, h1, B5] : some (([], (2 : Int), ()), k) = some (a1k.post a k))) (fun h1 =>
 pQ (a.1.kind = 7 ∨ a.1.kind = 8) (by by_cases h : a.1.kind = 8 <;> simp [h] at h1 ⊢; exact h1) (
 bq ((d4p.ret (a.1, ())).1 != 0) (fun h2 => (by simp only [a1k, tkG, h1, h2, B5, B8] : some (([], (2 : Int), ()), k) = some (a1k.post a k))) (fun h2 =>
 bq (a.1.group != kGr k) (fun h3 => (by simp only [a1k, tkG, h1, h2, h3, B5, B8] : some (([], (171 : Int), ()), k) = some (a1k.post a k))) (fun h3 =>
 bq (a.1.epoch != kEp k) (fun h4 => (by simp only [a1k, tkG, h1, h2, h3, h4, B5, B8] : some (([], (171 : Int), ()), k) = some (a1k.post a k))) (fun h4 =>
 bq (!b6y (kCr k) a.1.sq) (fun h5 => (by simp only [a1k, tkG, h1]; simp only [h2, h3, h4, h5, B5, B8] : some (([], (110 : Int), ()), k) = some (a1k.post a k))) (fun h5 =>
 bq (a.1.sq == kSf k) (fun h6 => (by simp only [a1k, tkG, h1]; simp only [h2, h3, h4, h5, h6, B5, B8] : some (([], (110 : Int), ()), k) = some (a1k.post a k))) (fun h6 =>
 have e0 : (a1k.post a k) = bif a.1.kind == 8 then (bif !b6y (kCr k) a.1.node then (([], 110, ()), k) else (([], (a1l k a.1).1.1, ()), (a1l k a.1).2)) else c3q k a.1 := by simp only [a1k, tkG, h1]; simp only [h2, h3, h4, h5, h6, B8]
 bq (a.1.kind == 8) (fun h7 =>
  bq (!b6y (kCr k) a.1.node) (fun h8 => (by rw [e0, h7, h8]; rfl : some (([], (110 : Int), ()), k) = some (a1k.post a k))) (fun h8 =>
   (by rw [e0, h7, h8]; rfl : some (([], (a1l k a.1).1.1, ()), (a1l k a.1).2) = some (a1k.post a k))))
 (fun h7 =>
  have e : a1k.post a k = c3q k a.1 := by rw [e0, h7]; rfl
   bq (decide ((dgW a.1.change).change.view < (sd (kCh k) a.1.sq).change.view)) (fun h8 => (by rw [e, c3q, h8]; rfl : some (([], (190 : Int), ()), kIg k a.1.change) = some (a1k.post a k))) (fun h8 =>
   bq (bif (sd (kCh k) a.1.sq).change.view == (dgW a.1.change).change.view then !dq (α := i4) (sd (kCh k) a.1.sq).change (dgW a.1.change).change else false) (fun h9 => (by rw [e, c3q, h8, h9]; rfl : some (([], (151 : Int), ()), kIg k a.1.change) = some (a1k.post a k))) (fun h9 =>
   bq ((sd (kCh k) a.1.sq).change.view == (dgW a.1.change).change.view) (fun h10 => (by rw [e, c3q, h8, h9, h10]; rfl : some (([], (0 : Int), ()), kIg k a.1.change) = some (a1k.post a k))) (fun h10 =>
   (by rw [e, c3q, h8, h9, h10]; rfl : some (([a3b k (dgW a.1.change)], (0 : Int), ()), c1v (kIg k a.1.change) (m9 (E := D) .int (.st 8) (kCh k) a.1.sq (dgW a.1.change))) = some (a1k.post a k)))))))))))))
def g8c : m6 Tp 211 = 112 := by kernel_rfl
def g8d : m6 Tp 169 = 64 := by kernel_rfl
def h1x : m6 Tp 33 = 32 := by kernel_rfl
structure bdC (c : i4) : Prop where
  m : c.mz.length * 40 <= i5
  p : c.p.length * 48 <= i5
  q : c.q.length * 48 <= i5
structure bdW (w : u9) : Prop where
  d : w.data.length <= i5
  n : w.next.length * 8 <= i5
structure bdB (l : List u9) : Prop where
  s : l.length * 112 <= i5
  e : ∀ w ∈ l, bdW w
structure bdN (n : i8) : Prop where
  b : bdB n.batch
  a : n.answer.data.length <= i5
  an : n.answer.nodes.length * 8 <= i5
  c : bdC n.change
  cl : n.changes.length * 96 <= i5
  cs : ∀ c ∈ n.changes, bdC c
  pl : n.picks.length * 64 <= i5
  ps : ∀ p ∈ n.picks, bdB p.batch
  d : n.digests.length * 32 <= i5
  t : n.data.length <= i5
  n : n.nodes.length * 8 <= i5
def d1x : Con D := { ts := [.sl .u8], rt := [.sl .u8], pre := some (fun a => a.1.length <= i5), ret := fun a => a }
def d4r : Con D := { ts := [.sl .int], rt := [.sl .int], pre := some (fun a => a.1.length * 8 <= i5), ret := fun a => a }
def c2l : Con D := { ts := [.st 3], rt := [.st 3], pre := some (fun a => bdC a.1), ret := fun a => a }
def e0k : Con D := { ts := [.st 4], rt := [.st 4], pre := some (fun a => bdW a.1), ret := fun a => a }
def d4s : Con D := { ts := [.sl (.st 4)], rt := [.sl (.st 4)], pre := some (fun a => bdB a.1), ret := fun a => a }
def b7e {n s : Nat} (h : n * s <= i5) : Nat.ble ((0 + n) * s) i5 = true := by rw [F2]; exact D3 h
def e7y : d1x.ok Tp 80 := Con.prove (c := d1x) EF ((Z0.side K0).skip) K0 (H := H0) (n := 2) fun (a : HL D d1x.ts) (hp : d1x.holds a) =>
 bN (Nat.ble ((0 + a.1.length) * m6 Tp 5) i5) (by rw [mb5]; exact b7e (by have h : a.1.length <= i5 := hp; omega)) (rfl : some ([] ++ a.1, ()) = some (d1x.ret a))
def f5q : d4r.ok Tp 100 := Con.prove (c := d4r) EF ((Z0.side K0).skip) K0 (H := H0) (n := 2) fun (a : HL D d4r.ts) (hp : d4r.holds a) =>
 bN (Nat.ble ((0 + a.1.length) * m6 Tp 3) i5) (by rw [mb3]; exact b7e hp) (rfl : some ([] ++ a.1, ()) = some (d4r.ret a))
def c5s : c2l.ok Tp 64 := Con.prove (c := c2l) EF ((Z0.side K0).skip) K0 (H := H0) (n := 2) fun (a : HL D c2l.ts) (hp : c2l.holds a) =>
 have h : bdC a.1 := hp
 bN (Nat.ble ((0 + a.1.mz.length) * m6 Tp 116) i5) (by rw [d6n]; exact b7e h.m) (
 bN (Nat.ble ((0 + a.1.p.length) * m6 Tp 118) i5) (by rw [d0p]; exact b7e h.p) (
 bN (Nat.ble ((0 + a.1.q.length) * m6 Tp 118) i5) (by rw [d0p]; exact b7e h.q) (
 (rfl : some (({ node := a.1.node, view := a.1.view, low := a.1.low, mz := [] ++ a.1.mz, p := [] ++ a.1.p, q := [] ++ a.1.q } : i4), ()) = some (c2l.ret a)))))
abbrev Γcp : Nat -> Option (Con D) := j6 (j6 noC 80 d1x) 100 d4r
def Kcp : o8 EF Tp Γcp noO := (K0.c e7y).c f5q
def g8e : e0k.ok Tp 144 := Con.prove (c := e0k) EF ((Z0.side K0).skip) Kcp (H := H0) (n := 2) fun (a : HL D e0k.ts) (hp : e0k.holds a) =>
 have h : bdW a.1 := hp
 pQ (a.1.data.length <= i5) h.d (
 pQ (a.1.next.length * 8 <= i5) h.n (
 (rfl : some (({ client := a.1.client, stamp := a.1.stamp, group := a.1.group, epoch := a.1.epoch, kind := a.1.kind, block := a.1.block, data := a.1.data, old := a.1.old, nw := a.1.nw, next := a.1.next } : u9), ()) = some (e0k.ret a))))
abbrev Γca : Nat -> Option (Con D) := j6 (j6 Γcp 144 e0k) 64 c2l
def Kca : o8 EF Tp Γca noO := (Kcp.c g8e).c c5s
def g2a (l : List u9) : LH D := ⟨Nat, [3, 4], fun i => [.own 0, iv (i : Int)], fun i => i <= l.length, fun i => l.length - i, [(.sl 3, .st 4, 211)], fun i => [.arr (.st 4) 211 (l.take i)], [], fun _ => []⟩
def caH (a : HL D d4s.ts) : Nat -> Nat -> Option (Hint D) := fun f r => match f, r with
 | 103, 3 => some (.inv (g2a a.1))
 | _, _ => none
def c2m {α : Type} {n i s : Nat} (h : n * s <= i5) (hi : i < n) (l : List α) (hl : l.length = n) : Nat.ble (((l.take i).length + 1) * s) i5 = true := by
 apply D3
 rw [C4, hl, J0 (O0 hi)]
 exact D5 (M4 s hi) h
def a4f {α : Type} {l : List α} {i : Nat} {d : α} (h : i < l.length) : l.getD i d ∈ l := by
 rw [B3, B2 h]; exact M6 h
def g8f : d4s.ok Tp 103 := Con.proveH (c := d4s) EF ((Z0.side K0).skip) (H := caH) (call := fun a => a1a EF ((Z0.side K0).skip) Γca noO (caH a) 4) (fun _ => o0 _ Kca 4) fun (a : HL D d4s.ts) (hp : d4s.holds a) =>
 have h : bdB a.1 := hp
 And.intro (⟨(0 : Nat), rfl, rfl, rfl, C0 _⟩ : Ent (g2a a.1) [SV.own 0, SV.i .i64 0] [HB.arr (.st 4) 211 []] []) (
 fun (i : Nat) (hI : i <= a.1.length) =>
 brL fun hl : a.1.length <= i5 =>
 bq (decide ((i : Int) < (a.1.length : Nat))) (fun h3 =>
 bN (iX (i : Int) ((a.1.length : Nat) : Int)) (ltD h3) (
 pQ (bdW (a.1.getD i (Ty.dflt D (.st 4)))) (h.e _ (a4f (j4 h3))) (
 bN (Nat.ble (((a.1.take i).length + 1) * m6 Tp 211) i5) (by rw [g8c]; exact c2m h.s (j4 h3) a.1 rfl) (
 (⟨i + 1, by
  show [SV.own 0, SV.i .i64 (wrap .i64 ((i : Int) + 1))] = [SV.own 0, iv ((i + 1 : Nat) : Int)]; rw [o7 (j4 h3) hl], by
  show ([HB.arr (.st 4) 211 (a.1.take i ++ [a.1.getD i (Ty.dflt D (.st 4))])] : List (HB D)) = [HB.arr (.st 4) 211 (a.1.take (i + 1))]; rw [a8q (j4 h3)], rfl, (show i + 1 <= a.1.length from j4 h3), a2t h3⟩ : Rnd (g2a a.1) i [SV.own 0, SV.i .i64 (wrap .i64 ((i : Int) + 1))] [HB.arr (.st 4) 211 (a.1.take i ++ [a.1.getD i (Ty.dflt D (.st 4))])] []))))) (fun h3 =>
 (by
  have : i = a.1.length := by have := A9 h3; omega
  rw [this, D1]; rfl : some (a.1.take i, ()) = some (d4s.ret a))))
def f3j (a : HL D [.int]) : HL D [.bool] :=
 (bif decide (1 <= a.1) then decide (a.1 <= 28) else false, ())
def a7v : Con D := { ts := [.int], rt := [.bool], ret := f3j }
def e7z : a7v.ok Tp 98 := Con.prove (c := a7v) EF ((Z0.side K0).skip) K0 (H := H0) (n := 4) fun (a : HL D a7v.ts) (hp : a7v.holds a) =>
 a7v.lf a (rfl)
def b3w (a : HL D [.sl .int, .int]) (i : Nat) : Bool :=
 bif getD a.1 (Int.toNat (↑i : Int)) (Ty.dflt D .int) == a.2.1 then
 false
 else true
def e8a (a : HL D [.sl .int, .int]) : HL D [.bool] :=
 bif a4r (b3w a) (length a.1) then
 (false, ())
 else (true, ())
def b5n : Con D := { ts := [.sl .int, .int], rt := [.bool], ret := e8a }
def g8g (a : HL D [.sl .int, .int]) : Nat -> Nat -> Option (Hint D) := fun f r => match f, r with
 | 99, 2 => some (.inv (a2h a.1.length 5 (b3w a)))
 | _, _ => none
def g2b : b5n.ok Tp 99 := Con.proveH (c := b5n) EF ((Z0.side K0).skip) (H := g8g) (call := fun a => a1a EF ((Z0.side K0).skip) noC noO (g8g a) 4) (fun _ => o0 _ K0 4) fun (a : HL D b5n.ts) (_ : b5n.holds a) =>
 And.intro (b1k : Ent (a2h (length a.1) 5 (b3w a)) [SV.i IntKind.i64 (0 : Int)] [] []) (fun (i : Nat) (hI1 : (a2h (length a.1) 5 (b3w a)).inv i) =>
 br_ (fun h1 : (Nat.ble (length a.1) i5) = true =>
 bq (decide ((↑i : Int) < (↑(length a.1) : Int))) (fun h2 => bN (iX (↑i : Int) (↑(length a.1) : Int)) (by first | exact ltD (by assumption) | exact ltW (by assumption) (by assumption) (by assumption)) (
 bq (getD a.1 (Int.toNat (↑i : Int)) (Ty.dflt D .int) == a.2.1) (fun h3 => b5n.lf a (cf (a2k (j4 h2) (ct h3 (rfl))) rfl)) (fun h3 => (⟨i + 1, a9v h2 (by assumption), rfl, rfl, ⟨j4 h2, a3g hI1.2 (cf h3 (rfl))⟩, a2t h2⟩ : Rnd (a2h (length a.1) 5 (b3w a)) i [SV.i IntKind.i64 (wrap IntKind.i64 ((↑i : Int) + 1))] [] [])))) (fun h2 => b5n.lf a (ct (a3r hI1 h2) (rfl)))) (fun _ => trivial))
abbrev g8h : Nat -> Option (Con D) := j6 noC 98 a7v
def g2c : o8 EF Tp g8h noO := K0.c e7z
def a7w (a : HL D [.st 0]) (i : Nat) : Bool :=
 bif !(a7v.ret (getD a.1.nodes (Int.toNat (↑i : Int)) (Ty.dflt D .int), ())).1 then
 false
 else bif decide (0 < (↑i : Int)) then
 bif decide (getD a.1.nodes (Int.toNat (↑i : Int)) (Ty.dflt D .int) <= getD a.1.nodes (Int.toNat (wrap IntKind.i64 ((↑i : Int) - 1))) (Ty.dflt D .int)) then
 false
 else true
 else true
def d4t (a : HL D [.st 0]) : HL D [.int] :=
 bif bif bif decide (a.1.faults < 0) then true else decide (2 < a.1.faults) then true else (↑(length a.1.nodes) : Int) != wrap IntKind.i64 (wrap IntKind.i64 ((3 : Int) * a.1.faults) + (1 : Int)) then
 ((110 : Int), ())
 else bif a4r (a7w a) (length a.1.nodes) then
 ((0 : Int), ())
 else ((110 : Int), ())
def a2v : Con D := { ts := [.st 0], rt := [.int], ret := d4t }
def f5r (a : HL D [.st 0]) : Nat -> Nat -> Option (Hint D) := fun f r => match f, r with
 | 61, 4 => some (.inv (a2h a.1.nodes.length 3 (a7w a)))
 | _, _ => none
def d8e : a2v.ok Tp 61 := Con.proveH (c := a2v) EF ((Z0.side g2c).skip) (H := f5r) (call := fun a => a1a EF ((Z0.side g2c).skip) g8h noO (f5r a) 4) (fun _ => o0 _ g2c 4) fun (a : HL D a2v.ts) (_ : a2v.holds a) =>
 bq (bif bif decide (a.1.faults < 0) then true else decide (2 < a.1.faults) then true else (↑(length a.1.nodes) : Int) != wrap IntKind.i64 (wrap IntKind.i64 ((3 : Int) * a.1.faults) + (1 : Int))) (fun h1 => a2v.lf a (ct h1 (rfl))) (fun h1 => And.intro (b1k : Ent (a2h (length a.1.nodes) 3 (a7w a)) [SV.i IntKind.i64 (0 : Int)] [] []) (fun (i : Nat) (hI2 : (a2h (length a.1.nodes) 3 (a7w a)).inv i) =>
 br_ (fun h2 : (Nat.ble (length a.1.nodes) i5) = true =>
 bq (decide ((↑i : Int) < (↑(length a.1.nodes) : Int))) (fun h3 => bN (iX (↑i : Int) (↑(length a.1.nodes) : Int)) (by first | exact ltD (by assumption) | exact ltW (by assumption) (by assumption) (by assumption)) (
 bq (!(a7v.ret (getD a.1.nodes (Int.toNat (↑i : Int)) (Ty.dflt D .int), ())).1) (fun h4 => a2v.lf a (cf h1 (cf (a2k (j4 h3) (ct h4 (rfl))) rfl))) (fun h4 => bq (decide (0 < (↑i : Int))) (fun h5 => bN (iX (↑i : Int) (↑(length a.1.nodes) : Int)) (by first | exact ltD (by assumption) | exact ltW (by assumption) (by assumption) (by assumption)) (
 bN (iX (wrap IntKind.i64 ((↑i : Int) - 1)) (↑(length a.1.nodes) : Int)) (by first | exact ltD (by assumption) | exact ltW (by assumption) (by assumption) (by assumption)) (
 bq (decide (getD a.1.nodes (Int.toNat (↑i : Int)) (Ty.dflt D .int) <= getD a.1.nodes (Int.toNat (wrap IntKind.i64 ((↑i : Int) - 1))) (Ty.dflt D .int))) (fun h6 => a2v.lf a (cf h1 (cf (a2k (j4 h3) (cf h4 (ct h5 (ct h6 (rfl))))) rfl))) (fun h6 => (⟨i + 1, a9v h3 (by assumption), rfl, rfl, ⟨j4 h3, a3g hI2.2 (cf h4 (ct h5 (cf h6 (rfl))))⟩, a2t h3⟩ : Rnd (a2h (length a.1.nodes) 3 (a7w a)) i [SV.i IntKind.i64 (wrap IntKind.i64 ((↑i : Int) + 1))] [] []))))) (fun h5 => (⟨i + 1, a9v h3 (by assumption), rfl, rfl, ⟨j4 h3, a3g hI2.2 (cf h4 (cf h5 (rfl)))⟩, a2t h3⟩ : Rnd (a2h (length a.1.nodes) 3 (a7w a)) i [SV.i IntKind.i64 (wrap IntKind.i64 ((↑i : Int) + 1))] [] []))))) (fun h3 => a2v.lf a (cf h1 (ct (a3r hI2 h3) (rfl))))) (fun _ => trivial)))
abbrev h1y : Nat -> Option (Con D) := j6 (j6 noC 61 a2v) 99 b5n
def f3k : o8 EF Tp h1y noO := (K0.c d8e).c g2b
def d4u (a : HL D [.st 0, .int]) : HL D [.bool] :=
 (bif (a2v.ret (a.1, ())).1 == 0 then (b5n.ret (a.1.nodes, a.2)).1 else false, ())
def a0k : Con D := { ts := [.st 0, .int], rt := [.bool], ret := d4u }
def c8g : a0k.ok Tp 62 := Con.prove (c := a0k) EF ((Z0.side f3k).skip) f3k (H := H0) (n := 4) fun (a : HL D a0k.ts) (hp : a0k.holds a) =>
 a0k.lf a (rfl)
def c8h (a : HL D [.st 0]) : HL D [.int] :=
 bif (a2v.ret a).1 != 0 then
 ((0 : Int), ())
 else (wrap IntKind.i64 (a.1.faults + 1), ())
def a1f : Con D := { ts := [.st 0], rt := [.int], ret := c8h }
def d1y : a1f.ok Tp 110 := Con.prove (c := a1f) EF ((Z0.side f3k).skip) f3k (H := H0) (n := 4) fun (a : HL D a1f.ts) (hp : a1f.holds a) =>
 br_ (fun h1 => a1f.lf a (ct h1 (rfl))) (fun h1 => a1f.lf a (cf h1 (rfl)))
abbrev Γcq : Nat -> Option (Con D) := j6 Γca 103 d4s
def Kcq : o8 EF Tp Γcq noO := Kca.c g8f
def nCl (n : i8) (x y : SV D) : List (SV D) := [iv n.kind, iv n.sq, iv n.group, iv n.epoch, iv n.view, iv n.seq, .dig n.dig, .sl (.st 4) n.batch, iv n.answer.err, .sl .u8 n.answer.data, iv n.answer.epoch, .sl .int n.answer.nodes, iv n.stamp, iv n.node, iv n.change.node, iv n.change.view, iv n.change.low, .sl (.st 1) n.change.mz, .sl (.st 2) n.change.p, .sl (.st 2) n.change.q, x, y, iv n.level, iv n.place, .sl .dig n.digests, .sl .u8 n.data, .sl .int n.nodes]
def e8b (n : i8) : LH D := ⟨Nat, [4], fun i => [iv (i : Int)], fun i => i <= n.changes.length, fun i => n.changes.length - i, [(.bx 2 20, .st 3, 41)], fun i => [.arr (.st 3) 41 (n.changes.take i)], [2], fun _ => [.box 46 (nCl n (.own 0) (.sl (.st 6) n.picks))]⟩
def e8c (n : i8) : LH D := ⟨Nat, [5], fun i => [iv (i : Int)], fun i => i <= n.picks.length, fun i => n.picks.length - i, [(.bx 2 20, .st 3, 41), (.bx 2 21, .st 6, 169)], fun i => [.arr (.st 3) 41 n.changes, .arr (.st 6) 169 (n.picks.take i)], [2], fun _ => [.box 46 (nCl n (.own 0) (.own 1))]⟩
def cpH (a : HL D [.st 7]) : Nat -> Nat -> Option (Hint D) := fun f r => match f, r with
 | 68, 7 => some (.inv (e8b a.1))
 | 68, 12 => some (.inv (e8c a.1))
 | _, _ => none
def c2n : Con D := { ts := [.st 7], rt := [.st 7], pre := some (fun a => bdN a.1), ret := fun a => a }
def e8d : c2n.ok Tp 68 := Con.proveH (c := c2n) EF ((Z0.side K0).skip) (H := cpH) (call := fun a => a1a EF ((Z0.side K0).skip) Γcq noO (cpH a) 4) (fun _ => o0 _ Kcq 4) fun (a : HL D c2n.ts) (hp : c2n.holds a) =>
 have h : bdN a.1 := hp
 pQ (bdB a.1.batch) h.b (
 pQ (a.1.answer.data.length <= i5) h.a (
 pQ (a.1.answer.nodes.length * 8 <= i5) h.an (
 pQ (bdC a.1.change) h.c (
 And.intro (⟨(0 : Nat), rfl, rfl, rfl, C0 _⟩ : Ent (e8b a.1) [SV.i .i64 0] [HB.arr (.st 3) 41 []] [HB.box 46 (nCl a.1 (.own 0) (.sl (.st 6) a.1.picks))]) (
 fun (i : Nat) (hI : i <= a.1.changes.length) =>
 brL fun hl : a.1.changes.length <= i5 =>
 bq (decide ((i : Int) < (a.1.changes.length : Nat))) (fun h3 =>
 bN (iX (i : Int) ((a.1.changes.length : Nat) : Int)) (ltD h3) (
 pQ (bdC (a.1.changes.getD i (Ty.dflt D (.st 3)))) (h.cs _ (a4f (j4 h3))) (
 bN (Nat.ble (((a.1.changes.take i).length + 1) * m6 Tp 41) i5) (by rw [f9s]; exact c2m h.cl (j4 h3) a.1.changes rfl) (
 (⟨i + 1, by
  show [SV.i .i64 (wrap .i64 ((i : Int) + 1))] = [iv ((i + 1 : Nat) : Int)]; rw [o7 (j4 h3) hl], by
  show ([HB.arr (.st 3) 41 (a.1.changes.take i ++ [a.1.changes.getD i (Ty.dflt D (.st 3))])] : List (HB D)) = [HB.arr (.st 3) 41 (a.1.changes.take (i + 1))]; rw [a8q (j4 h3)], rfl, (show i + 1 <= a.1.changes.length from j4 h3), a2t h3⟩ : Rnd (e8b a.1) i [SV.i .i64 (wrap .i64 ((i : Int) + 1))] [HB.arr (.st 3) 41 (a.1.changes.take i ++ [a.1.changes.getD i (Ty.dflt D (.st 3))])] [HB.box 46 (nCl a.1 (.own 0) (.sl (.st 6) a.1.picks))])))) ) (fun h3 =>
 have e1 : i = a.1.changes.length := by have := A9 h3; omega
 And.intro (⟨(0 : Nat), rfl, by rw [e1, D1]; rfl, rfl, C0 _⟩ : Ent (e8c a.1) [SV.i .i64 0] [HB.arr (.st 3) 41 (a.1.changes.take i), HB.arr (.st 6) 169 []] [HB.box 46 (nCl a.1 (.own 0) (.own 1))]) (
 fun (j : Nat) (hJ : j <= a.1.picks.length) =>
 brL fun hk : a.1.picks.length <= i5 =>
 bq (decide ((j : Int) < (a.1.picks.length : Nat))) (fun h6 =>
 bN (iX (j : Int) ((a.1.picks.length : Nat) : Int)) (ltD h6) (
 pQ (bdB (a.1.picks.getD j (Ty.dflt D (.st 6))).batch) (h.ps _ (a4f (j4 h6))) (
 bN (Nat.ble (((a.1.picks.take j).length + 1) * m6 Tp 169) i5) (by rw [g8d]; exact c2m h.pl (j4 h6) a.1.picks rfl) (
 (⟨j + 1, by
  show [SV.i .i64 (wrap .i64 ((j : Int) + 1))] = [iv ((j + 1 : Nat) : Int)]; rw [o7 (j4 h6) hk], by
  show ([HB.arr (.st 3) 41 a.1.changes, HB.arr (.st 6) 169 (a.1.picks.take j ++ [a.1.picks.getD j (Ty.dflt D (.st 6))])] : List (HB D)) = [HB.arr (.st 3) 41 a.1.changes, HB.arr (.st 6) 169 (a.1.picks.take (j + 1))]; rw [a8q (j4 h6)], rfl, (show j + 1 <= a.1.picks.length from j4 h6), a2t h6⟩ : Rnd (e8c a.1) j [SV.i .i64 (wrap .i64 ((j : Int) + 1))] [HB.arr (.st 3) 41 a.1.changes, HB.arr (.st 6) 169 (a.1.picks.take j ++ [a.1.picks.getD j (Ty.dflt D (.st 6))])] [HB.box 46 (nCl a.1 (.own 0) (.own 1))])))) ) (fun h6 =>
 have e2 : j = a.1.picks.length := by have := A9 h6; omega
 bN (Nat.ble ((0 + a.1.digests.length) * m6 Tp 33) i5) (by rw [h1x]; exact b7e h.d) (
 pQ (a.1.data.length <= i5) h.t (
 pQ (a.1.nodes.length * 8 <= i5) h.n (
 (by
  rw [e2, D1]; rfl : some (({ a.1 with picks := a.1.picks.take j } : i8), ()) = some (c2n.ret a)))))))))))))
def ins (l : List (List UInt8)) (x : List UInt8) : List (List UInt8) := bif decide (x ∈ l) then l else l ++ [x]
def c2o : j8 D := { ash := [.nm 0, .dat (.sl .u8)], es := [.box 143 [.nm 1, .dat .int], .arr (.sl .u8) 35], rsh := [.dat .dig, .dat .int], pes := [.box 143 [.nm 1, .dat .int], .arr (.sl .u8) 35], pre := some (fun a e => a.1.length <= 65536 /\ e.2.1.length <= 1000000000), post := fun a e => ((a2p a.1, 0, ()), ((wrap .i64 (e.1.1 + 1), ()), ins e.2.1 a.1, ())) }
def h1z : m6 Tp 35 = 24 := by kernel_rfl
abbrev Γbk : Nat -> Option (Con D) := j6 (j6 (j6 noC 78 b7z) 79 a3f) 80 d1x
def Kbk : o8 EF Tp Γbk noO := ((K0.c d4e).c d6q).c e7y
abbrev bkP (l : List (List UInt8)) (x : List UInt8) (i : Nat) : Bool := !(a3f.ret (l.getD i (Ty.dflt D (.sl .u8)), x, ())).1
def bkH (a : CL D c2o.ash) (e : EL D c2o.es) : Nat -> Nat -> Option (Hint D) := fun f r => match f, r with
 | 36, 6 => some (.inv (a2h e.2.1.length 7 (bkP e.2.1 a.1)))
 | _, _ => none
def a6z {p : Nat -> Bool} : ∀ {n : Nat}, a4r p n = true -> ∀ i, i < n -> p i = true
 | n + 1, h, i, hi => by
  have h : (a4r p n && p n) = true := h; rw [A7] at h; rcases F1.1 hi with hi | rfl
  ·exact a6z h.1 i hi
  ·exact h.2
def c2p {l : List (List UInt8)} {x : List UInt8} (h : x ∈ l) : ins l x = l := by unfold ins; rw [F6 h]; rfl
def c8i {l : List (List UInt8)} {x : List UInt8} (h : x ∉ l) : ins l x = l ++ [x] := by unfold ins; rw [E5 h]; rfl
def g8i : c2o.ok EF Tp 36 := j8.prove (c := c2o) EF Z0 Kbk (H := bkH) (n := 2) fun (a : CL D c2o.ash) (e : EL D c2o.es) (hp : c2o.holds a e) =>
 have p1 : a.1.length <= 65536 := hp.1
 have p2 : e.2.1.length <= 1000000000 := hp.2
 brL fun _ : a.1.length <= i5 =>
 bq (decide (65536 < ((a.1.length : Nat) : Int))) (fun h1 => (absurd (A6 h1) (by omega) : some ((Dig.zero, (5 : Int), ()), e) = some (c2o.post a e))) (fun _ =>
 pQ (a.1.length <= 1000000) (by omega) (
 And.intro (b1k : Ent (a2h e.2.1.length 7 (bkP e.2.1 a.1)) [SV.i .i64 0] [] []) (
 fun (i : Nat) (hI : i <= e.2.1.length /\ a4r (bkP e.2.1 a.1) i = true) =>
 bq (decide ((i : Int) < (e.2.1.length : Nat))) (fun h3 =>
 bN (iX (i : Int) ((e.2.1.length : Nat) : Int)) (ltD h3) (
 bq ((a3f.ret (e.2.1.getD i (Ty.dflt D (.sl .u8)), a)).1) (fun h4 => (by
  have h : a.1 ∈ e.2.1 := by
   have h4 : decide (e.2.1.getD i (Ty.dflt D (.sl .u8)) = a.1) = true := h4; rw [<- A6 h4]; exact a4f (j4 h3)
  show some ((a2p a.1, 0, ()), ((wrap .i64 (e.1.1 + 1), ()), e.2.1, ())) = some ((a2p a.1, 0, ()), ((wrap .i64 (e.1.1 + 1), ()), ins e.2.1 a.1, ())); rw [c2p h] : some ((a2p a.1, (0 : Int), ()), ((wrap .i64 (e.1.1 + 1), ()), e.2.1, ())) = some (c2o.post a e))) (fun h4 =>
 (⟨i + 1, by
   show [SV.i .i64 (wrap .i64 ((i : Int) + 1))] = [iv ((i + 1 : Nat) : Int)]; rw [o7 (j4 h3) (by unfold i5; omega)], rfl, rfl, ⟨j4 h3, a3g hI.2 (by show true = !(a3f.ret (e.2.1.getD i (Ty.dflt D (.sl .u8)), a)).1; rw [h4]; rfl)⟩, a2t h3⟩ : Rnd (a2h e.2.1.length 7 (bkP e.2.1 a.1)) i [SV.i .i64 (wrap .i64 ((i : Int) + 1))] [] [])))) (fun h3 =>
 pQ (a.1.length <= i5) (by unfold i5; omega) (
 bN (Nat.ble ((e.2.1.length + 1) * m6 Tp 35) i5) (by rw [h1z]; exact D3 (by unfold i5; omega)) (
 (by
  have h : a.1 ∉ e.2.1 := fun h => by
   have hA := a6z (a3r (k := 7) hI h3); obtain ⟨j, hj, he⟩ := M5.1 h; have := hA j hj; have he2 : e.2.1.getD j (Ty.dflt D (.sl .u8)) = a.1 := by rw [B3, B2 hj]; exact he
   unfold bkP at this; rw [show (a3f.ret (e.2.1.getD j (Ty.dflt D (.sl .u8)), a.1, ())).1 = decide (e.2.1.getD j (Ty.dflt D (.sl .u8)) = a.1) from rfl, F6 he2] at this; exact absurd this J3
  show some ((a2p a.1, 0, ()), ((wrap .i64 (e.1.1 + 1), ()), e.2.1 ++ [a.1], ())) = some ((a2p a.1, 0, ()), ((wrap .i64 (e.1.1 + 1), ()), ins e.2.1 a.1, ())); rw [c8i h] : some ((a2p a.1, (0 : Int), ()), ((wrap .i64 (e.1.1 + 1), ()), e.2.1 ++ [a.1], ())) = some (c2o.post a e))))))))
def d1z {p : Nat -> Bool} {n : Nat} : a4r p n = true ↔ ∀ i, i < n -> p i = true := by
 constructor
 ·exact a6z
 ·intro h
  induction n with
  | zero => rfl
  | succ n ih => exact a3g (ih fun i hi => h i (by omega)) (h n (by omega)).symm
def e0l {x : Int} : c1h x = true ↔ 1 <= x /\ x <= 28 := by unfold c1h; rw [rgI]; simp
def c5t : ∀ {l : List Int} {p : Int}, a1u p l = true ↔ ∀ i, i < l.length -> (1 <= iA l i /\ iA l i <= 28) /\ (if i = 0 then p else iA l (i - 1)) < iA l i
 | [], p => ⟨fun _ i hi => absurd hi (Q7 i), fun _ => rfl⟩
 | x :: r, p => by
  have e : a1u p (x :: r) = true ↔ (p < x /\ c1h x = true) /\ a1u x r = true := by
   show (bif decide (x <= p) || !c1h x then false else a1u x r) = true ↔ _; by_cases h1 : x <= p
   ·have : ¬ p < x := by omega
    simp [h1, this]
   ·have : p < x := by omega
    cases c1h x <;> simp [h1, this]
  rw [e, c5t (l := r) (p := x), e0l]; constructor
  ·rintro ⟨⟨h1, h2⟩, h3⟩ i hi; cases i with
   | zero => exact ⟨h2, h1⟩
   | succ i =>
    have h4 := h3 i (by simpa using hi); refine ⟨h4.1, ?_⟩; cases i with
    | zero => exact h4.2
    | succ i => exact h4.2
  ·intro h; have h0 := h 0 (by simp); refine ⟨⟨h0.2, h0.1⟩, fun i hi => ?_⟩; have h4 := h (i + 1) (by simpa using hi); refine ⟨h4.1, ?_⟩; cases i with
   | zero => exact h4.2
   | succ i => exact h4.2
def b8d {c : a0n} {i : Nat} (hi : i < c.nodes.length) (hl : c.nodes.length <= 1000000) : a7w (c, ()) i = true ↔ a8r c.nodes i := by
 show (bif !(bif decide (1 <= iA c.nodes i) then decide (iA c.nodes i <= 28) else false) then false else bif decide (0 < (i : Int)) then bif decide (iA c.nodes i <= iA c.nodes (wrap .i64 ((i : Int) - 1)).toNat) then false else true else true) = true ↔ _
 rw [rgI]
 by_cases h1 : 1 <= iA c.nodes i /\ iA c.nodes i <= 28
 ·by_cases h2 : 0 < i
  ·rw [show wrap .i64 ((i : Int) - 1) = ((i - 1 : Nat) : Int) by rw [IntWalk.i64_in _ (by omega)]; omega, G6]
   have h3 : (0 : Int) < (i : Int) := by omega
   by_cases h4 : iA c.nodes i <= iA c.nodes (i - 1)
   ·have : ¬ iA c.nodes (i - 1) < iA c.nodes i := by omega
    simp only [h1, h3, h4, a8r, this, h2]; simp
   ·have : iA c.nodes (i - 1) < iA c.nodes i := by omega
    simp only [h1, h3, h4, a8r, this, h2]; simp
  ·have h3 : ¬ (0 : Int) < (i : Int) := by omega
   simp only [h1, h3, a8r, h2]; simp
 ·simp only [h1, a8r]; simp
def b9q {l : List Int} : (∀ i, i < l.length -> a8r l i) ↔ a1u 0 l = true := by
 rw [c5t]
 constructor
 ·intro h i hi; refine ⟨(h i hi).1, ?_⟩; split
  ·rename_i h0; subst h0; have := (h 0 hi).1; omega
  ·exact (h i hi).2 (by omega)
 ·intro h i hi; refine ⟨(h i hi).1, fun h0 => ?_⟩; have := (h i hi).2
  rwa [F7 (by omega)] at this
def c8j {c : a0n} : (a2v.ret (c, ())).1 = a1d c := by
 show (d4t (c, ())).1 = _
 unfold d4t a1d
 by_cases h1 : c.faults < 0
 ·simp [h1]
 ·by_cases h2 : 2 < c.faults
  ·simp [h2]
  ·have hw : wrap .i64 (wrap .i64 (3 * c.faults) + 1) = 3 * c.faults + 1 := by
    rw [IntWalk.i64_in (3 * c.faults) (by omega), IntWalk.i64_in _ (by omega)]
   simp only [h1, h2, hw, P3, B8]; by_cases h3 : (c.nodes.length : Int) = 3 * c.faults + 1
   ·have h3' : ((c.nodes.length : Int) != 3 * c.faults + 1) = false := by simpa using h3
    rw [h3', B8, B8]; have e : a4r (a7w (c, ())) c.nodes.length = a1u 0 c.nodes := by
     rw [J9, d1z, <- b9q]; exact ⟨fun h i hi => (b8d hi (by omega)).1 (h i hi), fun h i hi => (b8d hi (by omega)).2 (h i hi)⟩
    rw [e]; cases a1u 0 c.nodes <;> rfl
   ·have h3' : ((c.nodes.length : Int) != 3 * c.faults + 1) = true := by simpa using h3
    rw [h3']; rfl
def d2a {c : a0n} : (a1f.ret (c, ())).1 = a1y c := by
 show (c8h (c, ())).1 = (b6t (c, ())).1
 unfold c8h b6t
 rw [c8j]
def a6i {c : a0n} (h : a1d c = 0) : (0 <= c.faults /\ c.faults <= 2) /\ (c.nodes.length : Int) = 3 * c.faults + 1 /\ a1u 0 c.nodes = true := by
 unfold a1d at h
 by_cases h1 : c.faults < 0
 ·simp [h1] at h
 ·by_cases h2 : 2 < c.faults
  ·simp [h1, h2] at h
  ·have hw : wrap .i64 (wrap .i64 (3 * c.faults) + 1) = 3 * c.faults + 1 := by
    rw [IntWalk.i64_in (3 * c.faults) (by omega), IntWalk.i64_in _ (by omega)]
   simp only [h1, h2, hw, P3, B8] at h; by_cases h3 : (c.nodes.length : Int) = 3 * c.faults + 1
   ·have h3' : ((c.nodes.length : Int) != 3 * c.faults + 1) = false := by simpa using h3
    rw [h3', B8] at h; cases h4 : a1u 0 c.nodes with
    | true => exact ⟨by omega, h3, rfl⟩
    | false => rw [h4] at h; exact absurd h (by decide)
   ·have h3' : ((c.nodes.length : Int) != 3 * c.faults + 1) = true := by simpa using h3
    rw [h3'] at h; exact absurd (show (110 : Int) = 0 from h) (by decide)
def b5o {l : List Int} (h : ∀ i, i < l.length -> a8r l i) : ∀ {i j : Nat}, i < j -> j < l.length -> iA l i < iA l j
 | i, j + 1, hij, hj => by
  have h1 := (h (j + 1) hj).2 (by omega); simp only [Nat.add_sub_cancel] at h1; rcases F1.1 hij with h2 | rfl
  ·have := b5o h h2 (by omega); omega
  ·exact h1
def c8k {l : List Int} {t : Int} (h : ∀ i, i < l.length -> a8r l i) : ∀ (f i j : Nat), i <= j -> j <= l.length -> j <= i + f -> (∀ k, k < i -> iA l k < t) -> (∀ k, j <= k -> k < l.length -> t <= iA l k) ->
  (∀ k, k < b6q l t f i j -> iA l k < t) /\ (∀ k, b6q l t f i j <= k -> k < l.length -> t <= iA l k)
 | 0, i, j, h1, h2, h3, h4, h5 => ⟨h4, fun k hk => h5 k (by unfold b6q at hk; omega)⟩
 | f + 1, i, j, h1, h2, h3, h4, h5 => by
  unfold b6q; by_cases hij : i < j
  ·simp only [hij, O2, B5]; by_cases hm : l.getD ((i + j) / 2) 0 < t
   ·simp only [hm, O2, B5]; exact c8k h f _ _ (by omega) h2 (by omega) (fun k hk => by
     rcases F1.1 hk with hk | rfl
     ·have := b5o h hk (by omega : (i + j) / 2 < l.length); have hm : iA l ((i + j) / 2) < t := hm; omega
     ·exact hm) h5
   ·simp only [hm, P3, B8]; exact c8k h f _ _ (by omega) (by omega) (by omega) h4 (fun k hk hl => by
     have hm : ¬ iA l ((i + j) / 2) < t := hm; rcases Nat.eq_or_lt_of_le hk with rfl | hk
     ·omega
     ·have := b5o h hk hl; omega)
  ·simp only [hij, P3, B8]; exact ⟨h4, fun k hk => h5 k (by omega)⟩
def d8f {l : List Int} {t : Int} (h : ∀ i, i < l.length -> a8r l i) : bsF l t = decide (t ∈ l) := by
 obtain ⟨h1, h2⟩ := c8k (t := t) h l.length 0 l.length (C0 _) (B9 _) (by omega) (fun k hk => absurd hk (Q7 k)) (fun k hk hl => by omega)
 change (∀ k, k < bsI l t -> iA l k < t) at h1
 change (∀ k, bsI l t <= k -> k < l.length -> t <= iA l k) at h2
 unfold bsF
 rw [J9, A7, C6, C6, J4]
 constructor
 ·rintro ⟨g1, g2⟩; rw [<- g2]; exact a4f g1
 ·intro hm; obtain ⟨k, hk, he⟩ := M5.1 hm; have hk2 : iA l k = t := by show l.getD k _ = t; rw [B3, B2 hk]; exact he
  have g3 : ¬ k < bsI l t := fun g => by have := h1 k g; omega
  have g4 : bsI l t < l.length := by omega
  refine ⟨g4, ?_⟩; show iA l (bsI l t) = t; rcases Nat.eq_or_lt_of_le (Nat.not_lt.1 g3) with e | e
  ·rw [e]; exact hk2
  ·have := b5o h e hk; have := h2 _ (B9 _) g4; omega
def b5p {c : a0n} (h : a1d c = 0) (x : Int) : b6y c x = decide (x ∈ c.nodes) := by
 show (c5c (c, x, ())).1 = _
 unfold c5c
 rw [h]
 exact d8f (b9q.2 (a6i h).2.2)
def g2d {l : List Int} {x : Int} : (b5n.ret (l, x, ())).1 = decide (x ∈ l) := by
 show (e8a (l, x, ())).1 = _
 unfold e8a
 by_cases h : x ∈ l
 ·obtain ⟨k, hk, he⟩ := M5.1 h; rw [a2k (i := k) hk (by
   unfold b3w; show false = bif l.getD k _ == x then false else true
   rw [B3, B2 hk, O4, he]; simp), F6 h]; rfl
 ·rw [d1z.2 fun i hi => by
   unfold b3w; show (bif l.getD i _ == x then false else true) = true; have : l.getD i (Ty.dflt D .int) ≠ x := fun e => h (e ▸ a4f hi)
   rw [beq_false_of_ne this]; rfl, E5 h]; rfl
def d8g {c : a0n} {x : Int} : (a0k.ret (c, x, ())).1 = b6y c x := by
 show (d4u (c, x, ())).1 = (c5c (c, x, ())).1
 unfold d4u c5c
 rw [c8j, g2d]
 cases hc : a1d c == 0 with
 | false => rfl
 | true =>
  have h0 : a1d c = 0 := by simpa using hc
  show decide (x ∈ c.nodes) = bsF c.nodes x; rw [d8f (b9q.2 (a6i h0).2.2)]
def b8e : Dig := ⟨replicate 32 1, rfl⟩
def e0m : Con D := { ts := [], rt := [.dig], ret := fun _ => (b8e, ()) }
def onH : Nat -> Nat -> Option (Hint D) := fun f r => match f, r with
 | 37, 3 => some (.unr 33)
 | _, _ => none
def g8j : e0m.ok Tp 37 := Con.prove (c := e0m) EF Z0 K0 (H := fun _ => onH) (n := 0) fun (_ : HL D e0m.ts) (_ : e0m.holds ()) =>
 (rfl : some (b8e, ()) = some (e0m.ret ()))
def cgB (c : i4) : List UInt8 := (b0a.ret (c, ())).1
def c8l {c : i4} : (cgB c).length <= 6000 := by
 show (bif n8 c then (j0 c, (0 : Int), ()) else ([], 2, ()) : HL D [.sl .u8, .int]).1.length <= 6000
 cases h : n8 c with
 | false => exact C0 _
 | true =>
  obtain ⟨h1, h2, h3⟩ := a2m h; have q := o6 (f := i6) (k := 3) (i := c.q.length) a0s (b1i (c := c) (by have := h1.l; omega) (a9i h2)) (a9j h3)
  rw [D1, d7v] at q; exact D5 q (by decide)
def c2q : Con D := { ts := [.st 7, .st 3], rt := [.st 7], pre := some (fun a => bdN a.1), ret := fun a => (bif decide (a.1.dig = b8e) then { a.1 with dig := a2p (cgB a.2.1) } else a.1, ()) }
abbrev Γow : Nat -> Option (Con D) := j6 (j6 (j6 (j6 (j6 noC 68 c2n) 49 b0a) 37 e0m) 78 b7z) 80 d1x
def Kow : o8 EF Tp Γow noO := ((((K0.c e8d).c f5l).c g8j).c d4e).c e7y
def g8k : Nat -> Nat -> Option (Hint D) := fun f r => match f, r with
 | 36, 6 => some (.unr 2)
 | _, _ => none
def g8l : c2q.ok Tp 67 := Con.proveH (c := c2q) EF Z0 (H := fun _ => g8k) (call := fun _ => a1a EF Z0 Γow noO g8k 4) (fun _ => o0 _ Kow 4) fun (a : HL D c2q.ts) (hp : c2q.holds a) =>
 have hB : (cgB a.2.1).length <= 6000 := c8l
 pQ (bdN a.1) hp (
 bq (decide (a.1.dig = b8e)) (fun h1 =>
 brL fun _ : (cgB a.2.1).length <= i5 =>
 bq (decide (65536 < (((cgB a.2.1).length : Nat) : Int))) (fun h3 =>
 (absurd (A6 h3) (by omega) : some (({ a.1 with dig := Dig.zero } : i8), ()) = some (c2q.ret a))) (fun _ =>
 pQ ((cgB a.2.1).length <= 1000000) (by omega) (
 pQ ((cgB a.2.1).length <= i5) (by unfold i5; omega) (
 (by
  show some (({ a.1 with dig := a2p (cgB a.2.1) } : i8), ()) = some (bif decide (a.1.dig = b8e) then { a.1 with dig := a2p (cgB a.2.1) } else a.1, ()); rw [h1]; rfl : some (({ a.1 with dig := a2p (cgB a.2.1) } : i8), ()) = some (c2q.ret a)))))) (fun h1 =>
 (by
  show some (a.1, ()) = some (bif decide (a.1.dig = b8e) then { a.1 with dig := a2p (cgB a.2.1) } else a.1, ()); rw [h1]; rfl : some (a.1, ()) = some (c2q.ret a))))
abbrev RS : List ES := [.box 140 [.nm 1, .dat (.st 0), .dat .int, .dat .int, .dat .int, .dat (.sl (.st 3)), .dat (.sl (.st 11))], .box 143 [.nm 2, .dat .int], .arr (.sl .u8) 35]
abbrev RD := EL D RS
abbrev rCr (r : RD) : a0n := r.1.1
abbrev rSf (r : RD) : Int := r.1.2.1
abbrev rGr (r : RD) : Int := r.1.2.2.1
abbrev rEp (r : RD) : Int := r.1.2.2.2.1
abbrev rL (r : RD) : List i4 := r.1.2.2.2.2.1
abbrev rA (r : RD) : List a1o := r.1.2.2.2.2.2.1
abbrev rMn (r : RD) : Int := r.2.1.1
abbrev rBk (r : RD) : List (List UInt8) := r.2.2.1
abbrev b1l (r : RD) (x : List UInt8) : RD := (r.1, (wrap .i64 (rMn r + 1), ()), ins (rBk r) x, ())
abbrev a7a (r : RD) (l : List i4) : RD := ((rCr r, rSf r, rGr r, rEp r, l, rA r, ()), r.2)
abbrev d8h (r : RD) (l : List a1o) : RD := ((rCr r, rSf r, rGr r, rEp r, rL r, l, ()), r.2)
structure okQ (r : RD) : Prop where
  bk : (rBk r).length <= 900000000
  len : (rL r).length <= 1000
  ch : ∀ c ∈ rL r, okC c
  al : (rA r).length <= 1000
def c8m {c : i4} (h : okC c) : bdC c := ⟨by have := h.1; unfold i5; omega, by have := h.2.1; unfold i5; omega, by have := h.2.2; unfold i5; omega⟩
def b8f : j8 D := { ash := [.nm 0, .dat (.st 3)], es := RS, rsh := [.dat .dig], pes := RS, pre := some (fun _ r => (rBk r).length <= 1000000000), post := fun a r => ((a2p (cgB a.1), ()), b1l r (cgB a.1)) }
abbrev Γdg : Nat -> Option (Con D) := j6 noC 49 b0a
abbrev Δdg : Nat -> Option (j8 D) := a0h noO 36 c2o
def Kdg : o8 EF Tp Γdg Δdg := (K0.c f5l).o g8i
def d4v : b8f.ok EF Tp 147 := j8.prove (c := b8f) EF Z0 Kdg (H := fun _ _ _ _ => none) (n := 1) fun (a : CL D b8f.ash) (r : RD) (hp : b8f.holds a r) =>
 pQ ((cgB a.1).length <= 65536 /\ (rBk r).length <= 1000000000) ⟨D5 c8l (by decide), hp⟩ (
 (rfl : some ((a2p (cgB a.1), ()), b1l r (cgB a.1)) = some (b8f.post a r)))
def fnd (l : List i4) (x : Int) : Option i4 := l.find? fun c => c.node == x
abbrev chA (l : List i4) (i : Nat) : i4 := l.getD i (Ty.dflt D (.st 3))
def b3d : j8 D := { ash := [.nm 0, .dat .int], es := RS, rsh := [.dat (.st 3), .dat .bool], pes := RS, pre := some (fun _ r => okQ r), post := fun a r => (((fnd (rL r) a.1).getD b3r, (fnd (rL r) a.1).isSome, ()), r) }
def a2w (c : i4) : Bool -> List i4 -> List i4
 | p, [] => bif p then [] else [c]
 | p, x :: r => (bif (bif !p then decide (c.node <= x.node) else false) then [c] else []) ++ ((bif x.node != c.node then [x] else []) ++ a2w c (bif (bif !p then decide (c.node <= x.node) else false) then true else p) r)
def b3x : j8 D := { ash := [.nm 0, .dat (.st 3)], es := RS, rsh := [], pes := RS, pre := some (fun a r => okQ r /\ bdC a.1), post := fun a r => ((), a7a r (a2w a.1 false (rL r))) }
def b5q (l : List i4) (c : i4) : LH D := ⟨List i4 × Bool × Nat, [4, 5, 6], fun i => [.own 0, .b i.2.1, iv (i.2.2 : Int)], fun i => i.2.2 <= l.length /\ i.1.length <= 2 * i.2.2 /\ i.1 ++ a2w c i.2.1 (l.drop i.2.2) = a2w c false l, fun i => l.length - i.2.2, [(.sl 4, .st 3, 41)], fun i => [.arr (.st 3) 41 i.1], [], fun _ => []⟩
abbrev Γpu : Nat -> Option (Con D) := j6 noC 64 c2l
def Kpu : o8 EF Tp Γpu noO := K0.c c5s
theorem g2e {b : Bool} (h : (!b) = true) : b = false := by cases b <;> simp_all
theorem b2j {n : Nat} (h : n <= 100000) : Nat.ble ((n + 1) * m6 Tp 41) i5 = true := by
 rw [f9s]; exact D3 (by unfold i5; omega)
section
variable {c : i4} {l T out : List i4} {p : Bool} {j : Nat} (hj : j < l.length) (hI : out ++ a2w c p (l.drop j) = T)
include hj hI in
theorem c8n : out ++ ((bif (bif !p then decide (c.node <= (chA l j).node) else false) then [c] else []) ++ ((bif (chA l j).node != c.node then [chA l j] else []) ++ a2w c (bif (bif !p then decide (c.node <= (chA l j).node) else false) then true else p) (l.drop (j + 1)))) = T := by
 rw [<- hI, G9 hj]
 have : chA l j = l[j] := by show l.getD j _ = _; rw [B3, B2 hj]; rfl
 rw [this]; rfl
include hj hI in
theorem e8e (hq : (bif !p then decide (c.node <= (chA l j).node) else false) = true) (hn : ((chA l j).node != c.node) = true) : (out ++ [c] ++ [chA l j]) ++ a2w c true (l.drop (j + 1)) = T := by
 have h := c8n hj hI; rw [hq, hn] at h; simpa using h
include hj hI in
theorem e8f (hq : (bif !p then decide (c.node <= (chA l j).node) else false) = true) (hn : ((chA l j).node != c.node) = false) : (out ++ [c]) ++ a2w c true (l.drop (j + 1)) = T := by
 have h := c8n hj hI; rw [hq, hn] at h; simpa using h
include hj hI in
theorem d2b (hq : (bif !p then decide (c.node <= (chA l j).node) else false) = false) (hn : ((chA l j).node != c.node) = true) : (out ++ [chA l j]) ++ a2w c p (l.drop (j + 1)) = T := by
 have h := c8n hj hI; rw [hq, hn] at h; simpa using h
include hj hI in
theorem d2c (hq : (bif !p then decide (c.node <= (chA l j).node) else false) = false) (hn : ((chA l j).node != c.node) = false) : out ++ a2w c p (l.drop (j + 1)) = T := by
 have h := c8n hj hI; rw [hq, hn] at h; simpa using h
end
theorem g2f : b3x.ok EF Tp 101 := j8.proveH (c := b3x) EF ((Z0.side Kpu).skip) (H := fun a r f x => match f, x with | 101, 4 => some (.inv (b5q (rL r) a.1)) | _, _ => none) (call := fun a r => a1a EF ((Z0.side Kpu).skip) Γpu noO (fun f x => match f, x with | 101, 4 => some (.inv (b5q (rL r) a.1)) | _, _ => none) 1) (fun _ _ => o0 _ Kpu 1) fun (a : CL D b3x.ash) (r : RD) (hp : b3x.holds a r) =>
 have hQ : okQ r := hp.1
 have hC : bdC a.1 := hp.2
 And.intro (⟨(([] : List i4), false, (0 : Nat)), rfl, rfl, rfl, ⟨C0 _, B9 _, rfl⟩⟩ : Ent (b5q (rL r) a.1) [SV.own 0, SV.b false, SV.i .i64 0] [HB.arr (.st 3) 41 []] []) (
 fun (i : List i4 × Bool × Nat) (hI : i.2.2 <= (rL r).length /\ i.1.length <= 2 * i.2.2 /\ i.1 ++ a2w a.1 i.2.1 ((rL r).drop i.2.2) = a2w a.1 false (rL r)) =>
 brL fun hl : (rL r).length <= i5 =>
 bq (decide ((i.2.2 : Int) < ((rL r).length : Nat))) (fun h3 =>
 have hj : i.2.2 < (rL r).length := j4 h3
 bq (!i.2.1) (fun h4 =>
 bN (iX (i.2.2 : Int) (((rL r).length : Nat) : Int)) (ltC hj) (
 bq (decide (a.1.node <= ((rL r).getD i.2.2 (Ty.dflt D (.st 3))).node)) (fun h5 =>
 pQ (bdC a.1) hC (
 bN (Nat.ble ((length (i.1) + 1) * m6 Tp 41) i5) (b2j (by have := hI.2.1; have := hQ.len; omega)) (
 bN (iX (i.2.2 : Int) (((rL r).length : Nat) : Int)) (ltC hj) (
 bq (((rL r).getD i.2.2 (Ty.dflt D (.st 3))).node != a.1.node) (fun h6 =>
 bN (iX (i.2.2 : Int) (((rL r).length : Nat) : Int)) (ltC hj) (
 bN (Nat.ble ((length (i.1 ++ [a.1]) + 1) * m6 Tp 41) i5) (b2j (by have := hI.2.1; have := hQ.len; (try simp only [B7, E9]); omega)) (
 (⟨(i.1 ++ [a.1] ++ [((rL r).getD i.2.2 (Ty.dflt D (.st 3)))], true, i.2.2 + 1), by
   show [SV.own 0, SV.b true, SV.i .i64 (wrap .i64 ((i.2.2 : Int) + 1))] = [SV.own 0, SV.b true, iv ((i.2.2 + 1 : Nat) : Int)]; rw [o7 hj hl], rfl, rfl, ⟨hj, by have := hI.2.1; (try simp only [B7, E9]); omega, e8e hj hI.2.2 (by rw [h4]; exact h5) h6⟩, by show (rL r).length - (i.2.2 + 1) < (rL r).length - i.2.2; omega⟩ : Rnd (b5q (rL r) a.1) i [SV.own 0, SV.b true, SV.i .i64 (wrap .i64 ((i.2.2 : Int) + 1))] [HB.arr (.st 3) 41 (i.1 ++ [a.1] ++ [((rL r).getD i.2.2 (Ty.dflt D (.st 3)))])] [])))) (fun h6 =>
 (⟨(i.1 ++ [a.1], true, i.2.2 + 1), by
   show [SV.own 0, SV.b true, SV.i .i64 (wrap .i64 ((i.2.2 : Int) + 1))] = [SV.own 0, SV.b true, iv ((i.2.2 + 1 : Nat) : Int)]; rw [o7 hj hl], rfl, rfl, ⟨hj, by have := hI.2.1; (try simp only [B7, E9]); omega, e8f hj hI.2.2 (by rw [h4]; exact h5) h6⟩, by show (rL r).length - (i.2.2 + 1) < (rL r).length - i.2.2; omega⟩ : Rnd (b5q (rL r) a.1) i [SV.own 0, SV.b true, SV.i .i64 (wrap .i64 ((i.2.2 : Int) + 1))] [HB.arr (.st 3) 41 (i.1 ++ [a.1])] [])))))) (fun h5 =>
 bN (iX (i.2.2 : Int) (((rL r).length : Nat) : Int)) (ltC hj) (
 bq (((rL r).getD i.2.2 (Ty.dflt D (.st 3))).node != a.1.node) (fun h6 =>
 bN (iX (i.2.2 : Int) (((rL r).length : Nat) : Int)) (ltC hj) (
 bN (Nat.ble ((length (i.1) + 1) * m6 Tp 41) i5) (b2j (by have := hI.2.1; have := hQ.len; (try simp only [B7, E9]); omega)) (
 (⟨(i.1 ++ [((rL r).getD i.2.2 (Ty.dflt D (.st 3)))], i.2.1, i.2.2 + 1), by
   show [SV.own 0, SV.b i.2.1, SV.i .i64 (wrap .i64 ((i.2.2 : Int) + 1))] = [SV.own 0, SV.b i.2.1, iv ((i.2.2 + 1 : Nat) : Int)]; rw [o7 hj hl], rfl, rfl, ⟨hj, by have := hI.2.1; (try simp only [B7, E9]); omega, d2b hj hI.2.2 (by rw [h4]; exact h5) h6⟩, by show (rL r).length - (i.2.2 + 1) < (rL r).length - i.2.2; omega⟩ : Rnd (b5q (rL r) a.1) i [SV.own 0, SV.b i.2.1, SV.i .i64 (wrap .i64 ((i.2.2 : Int) + 1))] [HB.arr (.st 3) 41 (i.1 ++ [((rL r).getD i.2.2 (Ty.dflt D (.st 3)))])] [])))) (fun h6 =>
 (⟨(i.1, i.2.1, i.2.2 + 1), by
   show [SV.own 0, SV.b i.2.1, SV.i .i64 (wrap .i64 ((i.2.2 : Int) + 1))] = [SV.own 0, SV.b i.2.1, iv ((i.2.2 + 1 : Nat) : Int)]; rw [o7 hj hl], rfl, rfl, ⟨hj, by have := hI.2.1; (try simp only [B7, E9]); omega, d2c hj hI.2.2 (by rw [h4]; exact h5) h6⟩, by show (rL r).length - (i.2.2 + 1) < (rL r).length - i.2.2; omega⟩ : Rnd (b5q (rL r) a.1) i [SV.own 0, SV.b i.2.1, SV.i .i64 (wrap .i64 ((i.2.2 : Int) + 1))] [HB.arr (.st 3) 41 (i.1)] [])))))) (fun h4 =>
 bN (iX (i.2.2 : Int) (((rL r).length : Nat) : Int)) (ltC hj) (
 bq (((rL r).getD i.2.2 (Ty.dflt D (.st 3))).node != a.1.node) (fun h6 =>
 bN (iX (i.2.2 : Int) (((rL r).length : Nat) : Int)) (ltC hj) (
 bN (Nat.ble ((length (i.1) + 1) * m6 Tp 41) i5) (b2j (by have := hI.2.1; have := hQ.len; (try simp only [B7, E9]); omega)) (
 (⟨(i.1 ++ [((rL r).getD i.2.2 (Ty.dflt D (.st 3)))], i.2.1, i.2.2 + 1), by
   show [SV.own 0, SV.b i.2.1, SV.i .i64 (wrap .i64 ((i.2.2 : Int) + 1))] = [SV.own 0, SV.b i.2.1, iv ((i.2.2 + 1 : Nat) : Int)]; rw [o7 hj hl], rfl, rfl, ⟨hj, by have := hI.2.1; (try simp only [B7, E9]); omega, d2b hj hI.2.2 (by rw [h4]; rfl) h6⟩, by show (rL r).length - (i.2.2 + 1) < (rL r).length - i.2.2; omega⟩ : Rnd (b5q (rL r) a.1) i [SV.own 0, SV.b i.2.1, SV.i .i64 (wrap .i64 ((i.2.2 : Int) + 1))] [HB.arr (.st 3) 41 (i.1 ++ [((rL r).getD i.2.2 (Ty.dflt D (.st 3)))])] [])))) (fun h6 =>
 (⟨(i.1, i.2.1, i.2.2 + 1), by
   show [SV.own 0, SV.b i.2.1, SV.i .i64 (wrap .i64 ((i.2.2 : Int) + 1))] = [SV.own 0, SV.b i.2.1, iv ((i.2.2 + 1 : Nat) : Int)]; rw [o7 hj hl], rfl, rfl, ⟨hj, by have := hI.2.1; (try simp only [B7, E9]); omega, d2c hj hI.2.2 (by rw [h4]; rfl) h6⟩, by show (rL r).length - (i.2.2 + 1) < (rL r).length - i.2.2; omega⟩ : Rnd (b5q (rL r) a.1) i [SV.own 0, SV.b i.2.1, SV.i .i64 (wrap .i64 ((i.2.2 : Int) + 1))] [HB.arr (.st 3) 41 (i.1)] []))))) (fun h3 =>
 have e : (rL r).drop i.2.2 = [] := I8 (by have := A9 h3; omega)
 bq (!i.2.1) (fun h4 =>
 pQ (bdC a.1) hC (
 bN (Nat.ble ((length (i.1) + 1) * m6 Tp 41) i5) (b2j (by have := hI.2.1; have := hQ.len; omega)) (
 (by
  have h := hI.2.2; rw [e, show a2w a.1 i.2.1 [] = [a.1] by show (bif i.2.1 then [] else [a.1]) = _; rw [g2e h4]; rfl] at h
  show some ((), a7a r (i.1 ++ [a.1])) = some ((), a7a r (a2w a.1 false (rL r))); rw [h] : some ((), a7a r (i.1 ++ [a.1])) = some (b3x.post a r))))) (fun h4 =>
 (by
  have h := hI.2.2; rw [e, show a2w a.1 i.2.1 [] = [] by show (bif i.2.1 then [] else [a.1]) = _; rw [b8c h4]; rfl, D6] at h
  show some ((), a7a r i.1) = some ((), a7a r (a2w a.1 false (rL r))); rw [h] : some ((), a7a r i.1) = some (b3x.post a r)))))
abbrev ofP (l : List i4) (x : Int) (i : Nat) : Bool := !((chA l i).node == x)
theorem g2g {l : List i4} {x : Int} : ∀ {i : Nat}, i < l.length -> a4r (ofP l x) i = true -> ((chA l i).node == x) = true -> fnd l x = some (chA l i) := by
 intro i hi ha he
 have hA := a6z ha
 have e (k : Nat) (hk : k < l.length) : chA l k = l[k] := by show l.getD k _ = _; rw [B3, B2 hk]; rfl
 unfold fnd
 rw [List.find?_eq_some_iff_getElem]
 refine ⟨he, i, hi, (e i hi).symm, fun j hj => ?_⟩
 have := hA j hj
 unfold ofP at this
 rwa [e j (by omega)] at this
theorem g2h {l : List i4} {x : Int} (h : a4r (ofP l x) l.length = true) : fnd l x = none := by
 unfold fnd
 rw [U1]
 intro c hc
 obtain ⟨k, hk, he⟩ := M5.1 hc
 have := a6z h k hk
 unfold ofP at this
 have e : chA l k = l[k] := by show l.getD k _ = _; rw [B3, B2 hk]; rfl
 rw [e, he] at this
 simpa using this
theorem e8g : b3d.looks EF Tp 77 := j8.proveL (c := b3d) EF ((Z0.side Kpu).skip) (H := fun a r f x => match f, x with | 77, 2 => some (.inv (a2h (rL r).length 6 (ofP (rL r) a.1))) | _, _ => none) (call := fun a r => a1a EF ((Z0.side Kpu).skip) Γpu noO (fun f x => match f, x with | 77, 2 => some (.inv (a2h (rL r).length 6 (ofP (rL r) a.1))) | _, _ => none) 1) (fun _ _ => o0 _ Kpu 1) fun (a : CL D b3d.ash) (r : RD) (hp : okQ r) =>
 And.intro (b1k : Ent (a2h (rL r).length 6 (ofP (rL r) a.1)) [SV.i .i64 0] [] []) (
 fun (i : Nat) (hI : i <= (rL r).length /\ a4r (ofP (rL r) a.1) i = true) =>
 brL fun hl : (rL r).length <= i5 =>
 bq (decide ((i : Int) < ((rL r).length : Nat))) (fun h3 =>
 bN (iX (i : Int) (((rL r).length : Nat) : Int)) (ltD h3) (
 bq ((chA (rL r) i).node == a.1) (fun h4 =>
 bN (iX (i : Int) (((rL r).length : Nat) : Int)) (ltD h3) (
 pQ (bdC (chA (rL r) i)) (c8m (hp.ch _ (a4f (j4 h3)))) (
 (by
  show some (chA (rL r) i, true, ()) = some ((fnd (rL r) a.1).getD b3r, (fnd (rL r) a.1).isSome, ()); rw [g2g (j4 h3) hI.2 h4]; rfl : some (chA (rL r) i, true, ()) = some (b3d.post a r).1)))) (fun h4 =>
 (⟨i + 1, a9v h3 (D3 hl), rfl, rfl, ⟨j4 h3, a3g hI.2 (by unfold ofP; rw [h4]; rfl)⟩, a2t h3⟩ : Rnd (a2h (rL r).length 6 (ofP (rL r) a.1)) i [SV.i .i64 (wrap .i64 ((i : Int) + 1))] [] [])))) (fun h3 =>
 (by
  show some (b3r, false, ()) = some ((fnd (rL r) a.1).getD b3r, (fnd (rL r) a.1).isSome, ()); rw [g2h (a3r (k := 6) hI h3)]; rfl : some (b3r, false, ()) = some (b3d.post a r).1)))
abbrev arA (l : List a1o) (i : Nat) : a1o := l.getD i (Ty.dflt D (.st 11))
def a6e (n : i8) (a : a1o) : Bool := bif a.sq != n.sq then true else a.node != n.node
def a9o (n : i8) (a : a1o) : Bool := bif a6e n a then false else bif decide (n.view < a.view) then true else bif a.view == n.view then !decide (a.dig = n.dig) else false
def d4w (n : i8) (a : a1o) : Int := bif decide (n.view < a.view) then 190 else 151
def c3r (n : i8) : a1o := ⟨n.sq, n.node, n.view, n.dig⟩
def akP (n : i8) (r : RD) : (Int × Unit) × RD := match (rA r).find? (a9o n) with
 | some a => ((d4w n a, ()), r)
 | none => ((0, ()), d8h r ((rA r).filter (a6e n) ++ [c3r n]))
def b8g : j8 D := { ash := [.nm 0, .dat (.st 7)], es := RS, rsh := [.dat .int], pes := RS, pre := some (fun _ r => okQ r), post := fun a r => akP a.1 r }
def d8i (l : List a1o) (n : i8) : LH D := ⟨Nat, [5, 6], fun i => [.own 0, iv (i : Int)], fun i => i <= l.length /\ a4r (fun k => !a9o n (arA l k)) i = true, fun i => l.length - i, [(.sl 5, .st 11, 214)], fun i => [.arr (.st 11) 214 ((l.take i).filter (a6e n))], [], fun _ => []⟩
def m3 (c : i4) (x : Int) (a : a1o) : Bool := bif (bif a.sq == x then a.node == c.node else false) then a.view == c.view else false
def rIt : Nat -> RD -> List UInt8 -> RD
 | 0, r, _ => r
 | m + 1, r, x => b1l (rIt m r x) x
def hg (c : i4) (x : Int) (d : Dig) : List a1o -> Nat × Bool
 | [] => (0, false)
 | a :: r => bif m3 c x a then (bif decide (a.dig = d) then (1, true) else ((hg c x d r).1 + 1, (hg c x d r).2)) else hg c x d r
def rhP (r : RD) (c : i4) (x : Int) : (Bool × Unit) × RD :=
 bif x == c.node then ((false, ()), r)
 else bif x == rSf r then ((bif (fnd (rL r) c.node).isSome then dq (α := i4) ((fnd (rL r) c.node).getD b3r) c else false, ()), r)
 else (((hg c x (a2p (cgB c)) (rA r)).2, ()), rIt (hg c x (a2p (cgB c)) (rA r)).1 r (cgB c))
def a9w : j8 D := { ash := [.nm 0, .dat (.st 3), .dat .int], es := RS, rsh := [.dat .bool], pes := RS, pre := some (fun _ r => okQ r), post := fun a r => rhP r a.1 a.2.1 }
def a4t (r : RD) : HB D := .box 140 [.ptr 1 0, iv (rCr r).faults, .sl .int (rCr r).nodes, iv (rSf r), iv (rGr r), iv (rEp r), .sl (.st 3) (rL r), .sl (.st 11) (rA r)]
def c5u (r : RD) (c : i4) (x : Int) : LH D := ⟨Nat × Nat, [9], fun i => [iv (i.2 : Int)], fun i => i.2 <= (rA r).length /\ i.1 <= i.2 /\ hg c x (a2p (cgB c)) (rA r) = (i.1 + (hg c x (a2p (cgB c)) ((rA r).drop i.2)).1, (hg c x (a2p (cgB c)) ((rA r).drop i.2)).2), fun i => (rA r).length - i.2, [(.bx 1 0, .sl .u8, 35)], fun i => [.arr (.sl .u8) 35 (rBk (rIt i.1 r (cgB c)))], [0, 1], fun i => [a4t r, .box 143 [.own 0, iv (rMn (rIt i.1 r (cgB c)))]]⟩
abbrev Γhd : Nat -> Option (Con D) := j6 (j6 noC 64 c2l) 23 a4o
abbrev Δhd : Nat -> Option (j8 D) := a0h noO 147 b8f
def Khd : o8 EF Tp Γhd Δhd := ((K0.c c5s).c b2c).o d4v
abbrev Λof : Nat -> Option (j8 D) := a0h (fun _ => none) 77 b3d
def Lof : a1j EF Tp Λof := a1j.nil.o e8g
abbrev Zhd : ZF Tp D := (Z0.side Khd).skip
def hdH (r : RD) (a : CL D a9w.ash) : Nat -> Nat -> Option (Hint D) := fun f x => match f, x with
 | 109, 7 => some (.inv (c5u r a.1 a.2.1))
 | _, _ => none
def akH (r : RD) (a : CL D b8g.ash) : Nat -> Nat -> Option (Hint D) := fun f x => match f, x with
 | 105, 3 => some (.inv (d8i (rA r) a.1))
 | _, _ => none
def g8m : m6 Tp 214 = 56 := by kernel_rfl
def e8h {n : Nat} (h : n <= 1000) : Nat.ble ((n + 1) * m6 Tp 214) i5 = true := by
 rw [g8m]; exact D3 (by unfold i5; omega)
section
variable {α : Type} {q : α -> Bool} {l : List α} {d : α}
def a3h {k : Nat} (hk : k < l.length) : l.getD k d = l[k] := by rw [B3, B2 hk]; rfl
def f5s {i : Nat} (hi : i < l.length) (ha : a4r (fun k => !q (l.getD k d)) i = true) (he : q (l.getD i d) = true) : l.find? q = some (l.getD i d) := by
 have hA := a6z ha
 rw [List.find?_eq_some_iff_getElem]
 refine ⟨he, i, hi, (a3h hi).symm, fun j hj => ?_⟩
 have := hA j hj
 simp only [a3h (d := d) (Nat.lt_trans hj hi)] at this
 exact this
def g8n (h : a4r (fun k => !q (l.getD k d)) l.length = true) : l.find? q = none := by
 rw [U1]
 intro c hc
 obtain ⟨k, hk, he⟩ := M5.1 hc
 have := a6z h k hk
 simp only [a3h (d := d) hk, he] at this
 simpa using this
def d8j {f : α -> Bool} {i : Nat} (hi : i < l.length) : (l.take i).filter f ++ (if f (l.getD i d) = true then [l.getD i d] else []) = (l.take (i + 1)).filter f := by
 rw [D9 hi, L4, a3h hi]
 cases h : f l[i] <;> simp [h]
end
def g2i : b8g.ok EF Tp 105 := j8.proveH (c := b8g) EF ((Z0.side K0).skip) (H := fun a r => akH r a) (call := fun _ _ => a1a EF ((Z0.side K0).skip) noC noO (fun _ _ => none) 1) (fun _ _ => o0 _ K0 1) fun (a : CL D b8g.ash) (r : RD) (hp : okQ r) =>
 And.intro (⟨(0 : Nat), rfl, rfl, rfl, ⟨C0 _, rfl⟩⟩ : Ent (d8i (rA r) a.1) [SV.own 0, SV.i .i64 0] [HB.arr (.st 11) 214 []] []) (
 fun (i : Nat) (hI : i <= (rA r).length /\ a4r (fun k => !a9o a.1 (arA (rA r) k)) i = true) =>
 have hf : ((take i (rA r)).filter (a6e a.1)).length <= 1000 := D5 (O6 _ _) (by rw [C4]; have := hp.al; omega)
 brL fun hl : (rA r).length <= i5 =>
 bq (decide ((i : Int) < ((rA r).length : Nat))) (fun h3 =>
 bN (iX (i : Int) (((rA r).length : Nat) : Int)) (ltD h3) (
 bq (a6e a.1 (arA (rA r) i)) (fun h4 =>
 bN (Nat.ble ((((take i (rA r)).filter (a6e a.1)).length + 1) * m6 Tp 214) i5) (e8h hf) (
 (⟨i + 1, by
   show [SV.own 0, SV.i .i64 (wrap .i64 ((i : Int) + 1))] = [SV.own 0, iv ((i + 1 : Nat) : Int)]; rw [o7 (j4 h3) hl], by
   show ([HB.arr (.st 11) 214 (((take i (rA r)).filter (a6e a.1)) ++ [(arA (rA r) i)])] : List (HB D)) = [HB.arr (.st 11) 214 ((take (i + 1) (rA r)).filter (a6e a.1))]; rw [<- d8j (d := Ty.dflt D (.st 11)) (j4 h3), F8 h4], rfl, ⟨j4 h3, a3g hI.2 (by show true = !a9o a.1 (arA (rA r) i); unfold a9o; rw [h4]; rfl)⟩, a2t h3⟩ : Rnd (d8i (rA r) a.1) i [SV.own 0, SV.i .i64 (wrap .i64 ((i : Int) + 1))] [HB.arr (.st 11) 214 (((take i (rA r)).filter (a6e a.1)) ++ [(arA (rA r) i)])] []))) (fun h4 =>
 bq (decide (a.1.view < (arA (rA r) i).view)) (fun h5 =>
 (by
  show some ((190, ()), r) = some (akP a.1 r); unfold akP; rw [f5s (q := a9o a.1) (d := Ty.dflt D (.st 11)) (j4 h3) hI.2 (by unfold a9o; rw [h4, h5]; rfl)]
  show some (((190 : Int), ()), r) = some ((d4w a.1 (arA (rA r) i), ()), r); unfold d4w; rw [h5]; rfl : some (((190 : Int), ()), r) = some (b8g.post a r))) (fun h5 =>
 bq (bif (arA (rA r) i).view == a.1.view then !decide ((arA (rA r) i).dig = a.1.dig) else false) (fun h6 =>
 (by
  show some ((151, ()), r) = some (akP a.1 r); unfold akP; rw [f5s (q := a9o a.1) (d := Ty.dflt D (.st 11)) (j4 h3) hI.2 (by unfold a9o; rw [h4, h5, h6]; rfl)]
  show some (((151 : Int), ()), r) = some ((d4w a.1 (arA (rA r) i), ()), r); unfold d4w; rw [h5]; rfl : some (((151 : Int), ()), r) = some (b8g.post a r))) (fun h6 =>
 (⟨i + 1, by
   show [SV.own 0, SV.i .i64 (wrap .i64 ((i : Int) + 1))] = [SV.own 0, iv ((i + 1 : Nat) : Int)]; rw [o7 (j4 h3) hl], by
   show ([HB.arr (.st 11) 214 (((take i (rA r)).filter (a6e a.1)))] : List (HB D)) = [HB.arr (.st 11) 214 ((take (i + 1) (rA r)).filter (a6e a.1))]; rw [<- d8j (d := Ty.dflt D (.st 11)) (j4 h3), F7 (by rw [h4]; exact J3), D6], rfl, ⟨j4 h3, a3g hI.2 (by show true = !a9o a.1 (arA (rA r) i); unfold a9o; rw [h4, h5, h6]; rfl)⟩, a2t h3⟩ : Rnd (d8i (rA r) a.1) i [SV.own 0, SV.i .i64 (wrap .i64 ((i : Int) + 1))] [HB.arr (.st 11) 214 (((take i (rA r)).filter (a6e a.1)))] [])))))) (fun h3 =>
 have e : i = (rA r).length := by have := A9 h3; omega
 bN (Nat.ble ((((take i (rA r)).filter (a6e a.1)).length + 1) * m6 Tp 214) i5) (e8h hf) (
 (by
  show some (((0 : Int), ()), d8h r (((take i (rA r)).filter (a6e a.1)) ++ [c3r a.1])) = some (akP a.1 r); unfold akP; rw [g8n (q := a9o a.1) (d := Ty.dflt D (.st 11)) (a3r (k := 6) hI h3), e, D1] : some (((0 : Int), ()), d8h r (((take i (rA r)).filter (a6e a.1)) ++ [c3r a.1])) = some (b8g.post a r)))))
def f3l {l : List (List UInt8)} {x : List UInt8} : ins (ins l x) x = ins l x := by
 by_cases h : x ∈ l
 ·rw [c2p h, c2p h]
 ·rw [c8i h, c2p (by simp)]
def e8i {r : RD} {x : List UInt8} : ∀ m, rBk (rIt m r x) = rBk r ∨ rBk (rIt m r x) = ins (rBk r) x
 | 0 => .inl rfl
 | m + 1 => by
  have e : rBk (rIt (m + 1) r x) = ins (rBk (rIt m r x)) x := rfl; rcases e8i (r := r) (x := x) m with h | h
  ·exact .inr (by rw [e, h])
  ·exact .inr (by rw [e, h, f3l])
def b9r {l : List (List UInt8)} {x : List UInt8} : (ins l x).length <= l.length + 1 := by
 by_cases h : x ∈ l
 ·rw [c2p h]; omega
 ·rw [c8i h, B7]; exact B9 _
def d8k {r : RD} {x : List UInt8} {m : Nat} : (rBk (rIt m r x)).length <= (rBk r).length + 1 := by
 rcases e8i (r := r) (x := x) m with h | h
 ·rw [h]; omega
 ·rw [h]; exact b9r
def e8j {r : RD} {x : List UInt8} : ∀ m, (rIt m r x).1 = r.1
 | 0 => rfl
 | m + 1 => e8j m
def d8l {r : RD} {x : List UInt8} (m : Nat) : rIt m r x = (r.1, (rMn (rIt m r x), ()), rBk (rIt m r x), ()) := by
 rw [<- e8j (x := x) m]
section
variable {c : i4} {x : Int} {d : Dig} {l : List a1o} {j m : Nat} {T : Nat × Bool}
def c8o (hj : j < l.length) : hg c x d (l.drop j) = bif m3 c x (arA l j) then (bif decide ((arA l j).dig = d) then (1, true) else ((hg c x d (l.drop (j + 1))).1 + 1, (hg c x d (l.drop (j + 1))).2)) else hg c x d (l.drop (j + 1)) := by
 rw [G9 hj, show arA l j = l[j] from a3h hj]; rfl
def h2a (hj : j < l.length) (hm : m3 c x (arA l j) = true) (hd : decide ((arA l j).dig = d) = true) (hI : T = (m + (hg c x d (l.drop j)).1, (hg c x d (l.drop j)).2)) : T = (m + 1, true) := by
 rw [hI, c8o hj, hm, hd]; rfl
def h2b (hj : j < l.length) (hm : m3 c x (arA l j) = true) (hd : decide ((arA l j).dig = d) = false) (hI : T = (m + (hg c x d (l.drop j)).1, (hg c x d (l.drop j)).2)) : T = (m + 1 + (hg c x d (l.drop (j + 1))).1, (hg c x d (l.drop (j + 1))).2) := by
 rw [hI, c8o hj, hm, hd]
 show (m + ((hg c x d (l.drop (j + 1))).1 + 1), _) = _
 rw [I6, Q6 1]; rfl
def g2j (hj : j < l.length) (hm : m3 c x (arA l j) = false) (hI : T = (m + (hg c x d (l.drop j)).1, (hg c x d (l.drop j)).2)) : T = (m + (hg c x d (l.drop (j + 1))).1, (hg c x d (l.drop (j + 1))).2) := by
 rw [hI, c8o hj, hm]; rfl
end
def e8k : a9w.ok EF Tp 109 := j8.proveH (c := a9w) EF Zhd (H := fun a r => hdH r a) (call := fun _ _ => a5m EF Zhd Λof Γhd Δhd (fun _ _ => none) 1) (fun _ _ => a1t Lof Khd 1) fun (a : CL D a9w.ash) (r : RD) (hp : okQ r) =>
 bq (a.2.1 == a.1.node) (fun h1 => (by
  show some ((false, ()), r) = some (rhP r a.1 a.2.1); unfold rhP; rw [h1]; rfl : some ((false, ()), r) = some (a9w.post a r))) (fun h1 =>
 bq (a.2.1 == rSf r) (fun h2 =>
 pQ (okQ r) hp (
 (by
  show some ((bif (fnd (rL r) a.1.node).isSome then dq (α := i4) ((fnd (rL r) a.1.node).getD b3r) a.1 else false, ()), r) = some (rhP r a.1 a.2.1); unfold rhP; rw [h1, h2]; rfl : some ((bif (fnd (rL r) a.1.node).isSome then dq (α := i4) ((fnd (rL r) a.1.node).getD b3r) a.1 else false, ()), r) = some (a9w.post a r)))) (fun h2 =>
 have hP : a9w.post a r = (((hg a.1 a.2.1 (a2p (cgB a.1)) (rA r)).2, ()), rIt (hg a.1 a.2.1 (a2p (cgB a.1)) (rA r)).1 r (cgB a.1)) := by
  show rhP r a.1 a.2.1 = _; unfold rhP; rw [h1, h2]; rfl
 And.intro (⟨((0 : Nat), (0 : Nat)), rfl, rfl, rfl, ⟨C0 _, B9 _, by rw [F2]; rfl⟩⟩ : Ent (c5u r a.1 a.2.1) [SV.i .i64 0] [HB.arr (.sl .u8) 35 (rBk (rIt (0) r (cgB a.1)))] [a4t r, HB.box 143 [SV.own 0, iv (rMn (rIt (0) r (cgB a.1)))]]) (
 fun (i : Nat × Nat) (hI : i.2 <= (rA r).length /\ i.1 <= i.2 /\ hg a.1 a.2.1 (a2p (cgB a.1)) (rA r) = (i.1 + (hg a.1 a.2.1 (a2p (cgB a.1)) ((rA r).drop i.2)).1, (hg a.1 a.2.1 (a2p (cgB a.1)) ((rA r).drop i.2)).2)) =>
 brL fun hl : (rA r).length <= i5 =>
 bq (decide ((i.2 : Int) < ((rA r).length : Nat))) (fun h5 =>
 bN (iX (i.2 : Int) (((rA r).length : Nat) : Int)) (ltD h5) (
 bq ((arA (rA r) i.2).sq == a.2.1) (fun h6 =>
 bq ((arA (rA r) i.2).node == a.1.node) (fun h7 =>
 bq ((arA (rA r) i.2).view == a.1.view) (fun h8 =>
 have hm : m3 a.1 a.2.1 (arA (rA r) i.2) = true := by unfold m3; rw [h6, h7, h8]; rfl
 pQ ((rBk (rIt i.1 r (cgB a.1))).length <= 1000000000) (D5 d8k (by have := hp.bk; omega)) (
 bq (decide ((arA (rA r) i.2).dig = (a2p (cgB a.1)))) (fun h9 =>
 (by
  rw [hP, h2a (j4 h5) hm h9 hI.2.2, d8l (i.1 + 1)]; rfl : some ((true, ()), r.1, (rMn (rIt (i.1 + 1) r (cgB a.1)), ()), rBk (rIt (i.1 + 1) r (cgB a.1)), ()) = some (a9w.post a r))) (fun h9 =>
 (⟨(i.1 + 1, i.2 + 1), by
   show [SV.i .i64 (wrap .i64 ((i.2 : Int) + 1))] = [iv ((i.2 + 1 : Nat) : Int)]; rw [o7 (j4 h5) hl], rfl, rfl, ⟨j4 h5, by have := hI.2.1; omega, h2b (j4 h5) hm h9 hI.2.2⟩, a2t h5⟩ : Rnd (c5u r a.1 a.2.1) i [SV.i .i64 (wrap .i64 ((i.2 : Int) + 1))] [HB.arr (.sl .u8) 35 (rBk (rIt (i.1 + 1) r (cgB a.1)))] [a4t r, HB.box 143 [SV.own 0, iv (rMn (rIt (i.1 + 1) r (cgB a.1)))]])))) (fun h8 =>
 (⟨(i.1, i.2 + 1), by
   show [SV.i .i64 (wrap .i64 ((i.2 : Int) + 1))] = [iv ((i.2 + 1 : Nat) : Int)]; rw [o7 (j4 h5) hl], rfl, rfl, ⟨j4 h5, by have := hI.2.1; omega, g2j (j4 h5) (by unfold m3; rw [h6, h7, h8]; rfl) hI.2.2⟩, a2t h5⟩ : Rnd (c5u r a.1 a.2.1) i [SV.i .i64 (wrap .i64 ((i.2 : Int) + 1))] [HB.arr (.sl .u8) 35 (rBk (rIt (i.1) r (cgB a.1)))] [a4t r, HB.box 143 [SV.own 0, iv (rMn (rIt (i.1) r (cgB a.1)))]]))) (fun h7 =>
 (⟨(i.1, i.2 + 1), by
   show [SV.i .i64 (wrap .i64 ((i.2 : Int) + 1))] = [iv ((i.2 + 1 : Nat) : Int)]; rw [o7 (j4 h5) hl], rfl, rfl, ⟨j4 h5, by have := hI.2.1; omega, g2j (j4 h5) (by unfold m3; rw [h6, h7]; rfl) hI.2.2⟩, a2t h5⟩ : Rnd (c5u r a.1 a.2.1) i [SV.i .i64 (wrap .i64 ((i.2 : Int) + 1))] [HB.arr (.sl .u8) 35 (rBk (rIt (i.1) r (cgB a.1)))] [a4t r, HB.box 143 [SV.own 0, iv (rMn (rIt (i.1) r (cgB a.1)))]]))) (fun h6 =>
 (⟨(i.1, i.2 + 1), by
   show [SV.i .i64 (wrap .i64 ((i.2 : Int) + 1))] = [iv ((i.2 + 1 : Nat) : Int)]; rw [o7 (j4 h5) hl], rfl, rfl, ⟨j4 h5, by have := hI.2.1; omega, g2j (j4 h5) (by unfold m3; rw [h6]; rfl) hI.2.2⟩, a2t h5⟩ : Rnd (c5u r a.1 a.2.1) i [SV.i .i64 (wrap .i64 ((i.2 : Int) + 1))] [HB.arr (.sl .u8) 35 (rBk (rIt (i.1) r (cgB a.1)))] [a4t r, HB.box 143 [SV.own 0, iv (rMn (rIt (i.1) r (cgB a.1)))]])))) (fun h5 =>
 have e : (rA r).drop i.2 = [] := I8 (by have := A9 h5; omega)
 (by
  have h := hI.2.2; rw [e] at h; rw [hP, h, show i.1 + (hg a.1 a.2.1 (a2p (cgB a.1)) []).1 = i.1 from rfl, d8l i.1]; rfl : some ((false, ()), r.1, (rMn (rIt i.1 r (cgB a.1)), ()), rBk (rIt i.1 r (cgB a.1)), ()) = some (a9w.post a r))))))
abbrev Γrt : Nat -> Option (Con D) := j6 (j6 (j6 (j6 (j6 noC 64 c2l) 23 a4o) 104 a1g) 62 a0k) 88 a7c
abbrev Δrt : Nat -> Option (j8 D) := a0h (a0h (a0h (a0h noO 147 b8f) 101 b3x) 105 b8g) 109 a9w
def Krt : o8 EF Tp Γrt Δrt := ((((((((K0.c c5s).c b2c).c f3e).c c8g).c d7j).o d4v).o g2f).o g2i).o e8k
abbrev Zrt : ZF Tp D := (Z0.side Krt).skip
abbrev c8p (H : Nat -> Nat -> Option (Hint D)) (n : Nat) : n3 D := a5m EF Zrt Λof Γrt Δrt H n
def b7f (H : Nat -> Nat -> Option (Hint D)) (n : Nat) : n4 Tp (c8p H n) := a1t Lof Krt n
def c8q (r : RD) (c : i4) : i8 := ⟨8, rSf r, rGr r, rEp r, c.view, 0, a2p (cgB c), [], f1r, 0, c.node, b3r, [], [], 0, 0, [], [], []⟩
def b8h (r : RD) (c : i4) : i8 := ⟨7, rSf r, rGr r, rEp r, 0, 0, Dig.zero, [], f1r, 0, 0, c, [], [], 0, 0, [], [], []⟩
abbrev rOw (r : RD) (x : Int) : i4 := (fnd (rL r) x).getD b3r
abbrev rIs (r : RD) (x : Int) : Bool := (fnd (rL r) x).isSome
def b2q (r : RD) (c : i4) : (List i8 × Int × Unit) × RD :=
 bif (bif !n8 c then true else c.node != rSf r) then (([], 2, ()), r)
 else bif (bif rIs r (rSf r) then decide (c.view <= (rOw r (rSf r)).view) else false) then (([], 190, ()), r)
 else (([b8h r c], 0, ()), a7a r (a2w c false (rL r)))
def b1m : j8 D := { ash := [.nm 0, .dat (.st 3)], es := RS, rsh := [.dat (.sl (.st 7)), .dat .int], pes := RS, pre := some (fun _ r => okQ r), post := fun a r => b2q r a.1 }
def b1n (r : RD) (n : i8) : (List i8 × Int × Unit) × RD :=
 bif (bif (a1g.ret (n, ())).1 != 0 then true else (bif n.kind != 7 then n.kind != 8 else false)) then (([], 2, ()), r)
 else bif (bif n.group != rGr r then true else n.epoch != rEp r) then (([], 171, ()), r)
 else bif (bif (bif !(a0k.ret (rCr r, n.sq, ())).1 then true else n.sq == rSf r) then true else (bif n.kind == 8 then !(a0k.ret (rCr r, n.node, ())).1 else false)) then (([], 110, ()), r)
 else bif n.kind == 8 then (([], (akP n r).1.1, ()), (akP n r).2)
 else bif (bif rIs r n.sq then decide (n.change.view < (rOw r n.sq).view) else false) then (([], 190, ()), r)
 else bif (bif rIs r n.sq then (rOw r n.sq).view == n.change.view else false) then (([], bif !dq (α := i4) (rOw r n.sq) n.change then 151 else 0, ()), r)
 else (([c8q r n.change], 0, ()), b1l (a7a r (a2w n.change false (rL r))) (cgB n.change))
def a3e : j8 D := { ash := [.nm 0, .dat (.st 7)], es := RS, rsh := [.dat (.sl (.st 7)), .dat .int], pes := RS, pre := some (fun _ r => okQ r), post := fun a r => b1n r a.1 }
def b5r : j8 D := { ash := [.nm 0], es := RS, rsh := [.dat (.st 3), .dat .bool], pes := RS, pre := some (fun _ r => okQ r), post := fun _ r => ((rOw r (rSf r), rIs r (rSf r), ()), r) }
theorem e8l : b5r.looks EF Tp 71 := j8.proveL (c := b5r) EF Zrt (H := fun _ _ _ _ => none) (call := fun _ _ => c8p (fun _ _ => none) 2) (fun _ _ => b7f _ 2) fun (a : CL D b5r.ash) (r : RD) (hp : okQ r) =>
 pQ (okQ r) hp (rfl : some (rOw r (rSf r), rIs r (rSf r), ()) = some (b5r.post a r).1)
theorem g2k : b1m.ok EF Tp 65 := j8.proveH (c := b1m) EF Zrt (H := fun _ _ _ _ => none) (call := fun _ _ => c8p (fun _ _ => none) 2) (fun _ _ => b7f _ 2) fun (a : CL D b1m.ash) (r : RD) (hp : okQ r) =>
 bq (!n8 a.1) (fun h1 => (by
  show some (([], (2 : Int), ()), r) = some (b2q r a.1); unfold b2q; rw [h1]; rfl : some (([], (2 : Int), ()), r) = some (b1m.post a r))) (fun h1 =>
 have hb : bdC a.1 := c8m (a6h (b8c h1))
 bq (a.1.node != rSf r) (fun h2 => (by
  show some (([], (2 : Int), ()), r) = some (b2q r a.1); unfold b2q; rw [h1, h2]; rfl : some (([], (2 : Int), ()), r) = some (b1m.post a r))) (fun h2 =>
 pQ (okQ r) hp (
 bq (bif rIs r (rSf r) then decide (a.1.view <= (rOw r (rSf r)).view) else false) (fun h3 => (by
  show some (([], (190 : Int), ()), r) = some (b2q r a.1); unfold b2q; rw [h1, h2, h3]; rfl : some (([], (190 : Int), ()), r) = some (b1m.post a r))) (fun h3 =>
 pQ (okQ r /\ bdC a.1) ⟨hp, hb⟩ (
 pQ (bdC a.1) hb (
 (by
  show some (([b8h r a.1], (0 : Int), ()), a7a r (a2w a.1 false (rL r))) = some (b2q r a.1); unfold b2q; rw [h1, h2, h3]; rfl : some (([b8h r a.1], (0 : Int), ()), a7a r (a2w a.1 false (rL r))) = some (b1m.post a r))))))))
def f3m (r : RD) (n : i8) : (List i8 × Int × Unit) × RD := (([], (akP n r).1.1, ()), (akP n r).2)
def c2r (r : RD) (n : i8) : (List i8 × Int × Unit) × RD :=
 bif (bif rIs r n.sq then decide (n.change.view < (rOw r n.sq).view) else false) then (([], 190, ()), r)
 else bif (bif rIs r n.sq then (rOw r n.sq).view == n.change.view else false) then (([], bif !dq (α := i4) (rOw r n.sq) n.change then 151 else 0, ()), r)
 else (([c8q r n.change], 0, ()), b1l (a7a r (a2w n.change false (rL r))) (cgB n.change))
section
variable {r : RD} {n : i8} (h1 : ((a1g.ret (n, ())).1 != 0) = false) (hK : (bif n.kind != 7 then n.kind != 8 else false) = false)
include h1 hK
theorem d8m (h : (bif n.group != rGr r then true else n.epoch != rEp r) = true) : b1n r n = (([], 171, ()), r) := by
 unfold b1n; rw [h1, B8, hK, h]; rfl
theorem b7g (hg : (bif n.group != rGr r then true else n.epoch != rEp r) = false) (h : (bif (bif !(a0k.ret (rCr r, n.sq, ())).1 then true else n.sq == rSf r) then true else (bif n.kind == 8 then !(a0k.ret (rCr r, n.node, ())).1 else false)) = true) : b1n r n = (([], 110, ()), r) := by
 unfold b1n; rw [h1, B8, hK, hg, h]; rfl
theorem d8n (hg : (bif n.group != rGr r then true else n.epoch != rEp r) = false) (h : (bif (bif !(a0k.ret (rCr r, n.sq, ())).1 then true else n.sq == rSf r) then true else (bif n.kind == 8 then !(a0k.ret (rCr r, n.node, ())).1 else false)) = false) : b1n r n = bif n.kind == 8 then f3m r n else c2r r n := by
 unfold b1n f3m c2r; rw [h1, B8, hK, hg, h]; rfl
end
theorem g2l : a3e.ok EF Tp 69 := j8.proveH (c := a3e) EF Zrt (H := fun _ _ _ _ => none) (call := fun _ _ => c8p (fun _ _ => none) 2) (fun _ _ => b7f _ 2) fun (a : CL D a3e.ash) (r : RD) (hp : okQ r) =>
 have no2 (h : (bif (a1g.ret (a.1, ())).1 != 0 then true else (bif a.1.kind != 7 then a.1.kind != 8 else false)) = true) : some (([], (2 : Int), ()), r) = some (a3e.post a r) := by
  show some (([], (2 : Int), ()), r) = some (b1n r a.1); unfold b1n; rw [h]; rfl
 bq ((a1g.ret (a.1, ())).1 != 0) (fun h1 => (no2 (by rw [h1]; rfl) : some (([], (2 : Int), ()), r) = some (a3e.post a r))) (fun h1 =>
 have TAIL := fun (e : a3e.post a r = bif a.1.kind == 8 then f3m r a.1 else c2r r a.1) (hM : a.1.kind = 7 ∨ a.1.kind = 8) =>
  bq (a.1.kind == 8) (fun h => pQ (okQ r) hp (
   (by rw [e, h]; rfl : some (([], (akP a.1 r).1.1, ()), (akP a.1 r).2) = some (a3e.post a r)))) (fun h =>
  have e : a3e.post a r = c2r r a.1 := by rw [e, h]; rfl
  have hk : a.1.kind = 7 := hM.elim id fun h8 => by rw [h8] at h; exact absurd h (by decide)
  have hb : bdC a.1.change := by
   have h2 : (a1g.ret (a.1, ())).1 = 0 := by simpa using h1
   rw [rk7 hk] at h2; have h3 : b2o a.1 = true := by cases hn : b2o a.1 with | true => rfl | false => rw [hn] at h2; exact absurd (show (2 : Int) = 0 from h2) (by decide)
   unfold b2o at h3; rw [hk, show ((7 : Int) == 8) = false from rfl, B8] at h3; unfold c5p at h3; rw [A7] at h3; exact c8m (a6h (c8c h3.1).c)
  pQ (okQ r) hp (
  bq (bif rIs r a.1.sq then decide (a.1.change.view < (rOw r a.1.sq).view) else false) (fun h2 => (by
   rw [e]; unfold c2r; rw [h2]; rfl : some (([], (190 : Int), ()), r) = some (a3e.post a r))) (fun h2 =>
  bq (bif rIs r a.1.sq then (rOw r a.1.sq).view == a.1.change.view else false) (fun h3 =>
   bq (!dq (α := i4) (rOw r a.1.sq) a.1.change) (fun h4 => (by
    rw [e]; unfold c2r; rw [h2, h3, h4]; rfl : some (([], (151 : Int), ()), r) = some (a3e.post a r))) (fun h4 => (by
    rw [e]; unfold c2r; rw [h2, h3, h4]; rfl : some (([], (0 : Int), ()), r) = some (a3e.post a r)))) (fun h3 =>
  pQ (okQ r /\ bdC a.1.change) ⟨hp, hb⟩ (
  pQ ((rBk r).length <= 1000000000) (by have := hp.bk; omega) (
  (by
   rw [e]; unfold c2r; rw [h2, h3]; rfl : some (([c8q r a.1.change], (0 : Int), ()), b1l (a7a r (a2w a.1.change false (rL r))) (cgB a.1.change)) = some (a3e.post a r))))))))
 have MID := fun (hK : (bif a.1.kind != 7 then a.1.kind != 8 else false) = false) =>
  have hM : a.1.kind = 7 ∨ a.1.kind = 8 := by by_cases h : a.1.kind = 7 <;> simp [h] at hK ⊢; exact hK
  bq (a.1.group != rGr r) (fun h3 => ((congrArg some (d8m h1 hK (by rw [h3]; rfl))).symm : some (([], (171 : Int), ()), r) = some (a3e.post a r))) (fun h3 =>
  bq (a.1.epoch != rEp r) (fun h4 => ((congrArg some (d8m h1 hK (by rw [h3, h4]; rfl))).symm : some (([], (171 : Int), ()), r) = some (a3e.post a r))) (fun h4 =>
  have hg : (bif a.1.group != rGr r then true else a.1.epoch != rEp r) = false := by rw [h3, h4]; rfl
  bq (!(a0k.ret (rCr r, a.1.sq, ())).1) (fun h5 => ((congrArg some (b7g h1 hK hg (by rw [h5]; rfl))).symm : some (([], (110 : Int), ()), r) = some (a3e.post a r))) (fun h5 =>
  bq (a.1.sq == rSf r) (fun h6 => ((congrArg some (b7g h1 hK hg (by rw [h5, h6]; rfl))).symm : some (([], (110 : Int), ()), r) = some (a3e.post a r))) (fun h6 =>
  bq (a.1.kind == 8) (fun h7 =>
   bq (!(a0k.ret (rCr r, a.1.node, ())).1) (fun h8 => ((congrArg some (b7g h1 hK hg (by rw [h5, h6, h7, h8]; rfl))).symm : some (([], (110 : Int), ()), r) = some (a3e.post a r))) (fun h8 =>
    TAIL (d8n h1 hK hg (by rw [h5, h6, h7, h8]; rfl)) hM))
  (fun h7 => TAIL (d8n h1 hK hg (by rw [h5, h6, h7]; rfl)) hM)))))
 bq (a.1.kind != 7) (fun h2 =>
  bq (a.1.kind != 8) (fun h3 => (no2 (by rw [h1, h2, h3]; rfl) : some (([], (2 : Int), ()), r) = some (a3e.post a r))) (fun h3 => MID (by rw [h2, h3]; rfl)))
 (fun h2 => MID (by rw [h2]; rfl)))
abbrev bhQ (v : Int) (c : i4) : Bool := decide (v <= c.view)
def b8i : j8 D := { ash := [.nm 0, .dat .int], es := RS, rsh := [.dat .int], pes := RS, pre := some (fun _ r => okQ r), post := fun a r => ((((rL r).countP (bhQ a.1) : Nat), ()), r) }
def b8w (l : List i4) (q : i4 -> Bool) (s t : Nat) : LH D := ⟨Nat × Nat, [s, t], fun i => [iv (i.1 : Int), iv (i.2 : Int)], fun i => i.2 <= l.length /\ i.1 = (l.take i.2).countP q, fun i => l.length - i.2, [], fun _ => [], [], fun _ => []⟩
def bhH (a : CL D b8i.ash) (r : RD) : Nat -> Nat -> Option (Hint D) := fun f x => match f, x with
 | 75, 3 => some (.inv (b8w (rL r) (bhQ a.1) 5 6))
 | _, _ => none
abbrev jmQ (s w : Int) (c : i4) : Bool := bif c.node != s then decide (w <= c.view) else false
def jnT (r : RD) (x : i4) (b : Int) : Bool := bif (bif x.node != rSf r then decide ((a1f.ret (rCr r, ())).1 <= (((rL r).countP (jmQ (rSf r) x.view) : Nat) : Int)) else false) then decide (b < x.view) else false
def jbF (r : RD) : List i4 -> Int -> Int
 | [], b => b
 | x :: l, b => jbF r l (bif jnT r x b then x.view else b)
def b5s : j8 D := { ash := [.nm 0, .dat .int], es := RS, rsh := [.dat .int, .dat .bool], pes := RS, pre := some (fun _ r => okQ r), post := fun a r => ((bif jbF r (rL r) a.1 == a.1 then (0, false, ()) else (jbF r (rL r) a.1, true, ())), r) }
def b8j (r : RD) (v : Int) : LH D := ⟨Int × Nat, [6, 7], fun i => [iv i.1, iv (i.2 : Int)], fun i => i.2 <= (rL r).length /\ jbF r ((rL r).drop i.2) i.1 = jbF r (rL r) v, fun i => (rL r).length - i.2, [], fun _ => [], [], fun _ => []⟩
def jnH (a : CL D b5s.ash) (r : RD) : Nat -> Nat -> Option (Hint D) := fun f x => match f, x with
 | 74, 3 => some (.inv (b8j r a.1))
 | 74, 7 => some (.dep fun s => .inv (b8w (rL r) (jmQ (rSf r) (chA (rL r) (slI s 7).toNat).view) 8 9))
 | _, _ => none
abbrev Γjn : Nat -> Option (Con D) := j6 noC 110 a1f
def Kjn : o8 EF Tp Γjn noO := K0.c d1y
section
variable {l : List i4} {q : i4 -> Bool} {s t : Nat} {i : Nat × Nat} (hi : i.2 < l.length) (hl : l.length <= 1000) (hI : i.2 <= l.length /\ i.1 = (l.take i.2).countP q)
include hi hl hI in
theorem f5t (e : q (chA l i.2) = true) : Rnd (b8w l q s t) i [SV.i .i64 (wrap .i64 ((i.1 : Int) + 1)), SV.i .i64 (wrap .i64 ((i.2 : Int) + 1))] [] [] := by
 have h1 : i.1 <= 1000 := by rw [hI.2]; exact D5 O7 (by rw [C4]; omega)
 refine ⟨(i.1 + 1, i.2 + 1), ?_, rfl, rfl, ⟨hi, ?_⟩, by show l.length - (i.2 + 1) < l.length - i.2; omega⟩
 ·show _ = [iv ((i.1 + 1 : Nat) : Int), iv ((i.2 + 1 : Nat) : Int)]; rw [wr1 (by omega), wr1 (by omega)]
 ·show i.1 + 1 = (l.take (i.2 + 1)).countP q; rw [D9 hi, M3, <- hI.2]; rw [show chA l i.2 = l[i.2] from a3h hi] at e; simp [e]
include hi hl hI in
theorem e8m (e : q (chA l i.2) = false) : Rnd (b8w l q s t) i [SV.i .i64 (i.1 : Int), SV.i .i64 (wrap .i64 ((i.2 : Int) + 1))] [] [] := by
 refine ⟨(i.1, i.2 + 1), ?_, rfl, rfl, ⟨hi, ?_⟩, by show l.length - (i.2 + 1) < l.length - i.2; omega⟩
 ·show _ = [iv (i.1 : Int), iv ((i.2 + 1 : Nat) : Int)]; rw [wr1 (by omega)]
 ·show i.1 = (l.take (i.2 + 1)).countP q; rw [D9 hi, M3, <- hI.2]; rw [show chA l i.2 = l[i.2] from a3h hi] at e; simp [e]
end
theorem e8n {l : List i4} {q : i4 -> Bool} {s t : Nat} : Ent (b8w l q s t) [SV.i .i64 0, SV.i .i64 0] [] [] := ⟨((0 : Nat), (0 : Nat)), rfl, rfl, rfl, ⟨C0 _, rfl⟩⟩
theorem e8o {l : List i4} {q : i4 -> Bool} {i : Nat × Nat} (hI : i.2 <= l.length /\ i.1 = (l.take i.2).countP q) (h : decide ((i.2 : Int) < (l.length : Int)) = false) : i.1 = l.countP q := by
 have := A9 h
 rw [hI.2, show i.2 = l.length by omega, D1]
theorem g2m : b8i.looks EF Tp 75 := j8.proveL (c := b8i) EF ((Z0.side Kjn).skip) (H := fun a r => bhH a r) (call := fun _ _ => a1a EF ((Z0.side Kjn).skip) Γjn noO (fun _ _ => none) 2) (fun _ _ => o0 _ Kjn 2) fun (a : CL D b8i.ash) (r : RD) (hp : okQ r) =>
 And.intro (e8n : Ent (b8w (rL r) (bhQ a.1) 5 6) [SV.i .i64 0, SV.i .i64 0] [] []) (
 fun (i : Nat × Nat) (hI : i.2 <= (rL r).length /\ i.1 = ((rL r).take i.2).countP (bhQ a.1)) =>
 brL fun _ : (rL r).length <= i5 =>
 bq (decide ((i.2 : Int) < ((rL r).length : Nat))) (fun h3 =>
 bN (iX (i.2 : Int) (((rL r).length : Nat) : Int)) (ltD h3) (
 bq (decide (a.1 <= (chA (rL r) i.2).view)) (fun h4 => (f5t (j4 h3) hp.len hI h4 : Rnd (b8w (rL r) (bhQ a.1) 5 6) i [SV.i .i64 (wrap .i64 ((i.1 : Int) + 1)), SV.i .i64 (wrap .i64 ((i.2 : Int) + 1))] [] []))
  (fun h4 => (e8m (j4 h3) hp.len hI h4 : Rnd (b8w (rL r) (bhQ a.1) 5 6) i [SV.i .i64 (i.1 : Int), SV.i .i64 (wrap .i64 ((i.2 : Int) + 1))] [] [])))) (fun h3 =>
 (by
  rw [e8o hI h3]; rfl : some ((i.1 : Int), ()) = some (b8i.post a r).1)))
theorem g2n {r : RD} {v : Int} {i : Int × Nat} {b : Int} (hl : (rL r).length <= 1000) (hi : i.2 < (rL r).length) (hI : i.2 <= (rL r).length /\ jbF r ((rL r).drop i.2) i.1 = jbF r (rL r) v) (hb : (bif jnT r (chA (rL r) i.2) i.1 then (chA (rL r) i.2).view else i.1) = b) :
  Rnd (b8j r v) i [SV.i .i64 b, SV.i .i64 (wrap .i64 ((i.2 : Int) + 1))] [] [] := by
 refine ⟨(b, i.2 + 1), ?_, rfl, rfl, ⟨hi, ?_⟩, by show (rL r).length - (i.2 + 1) < (rL r).length - i.2; omega⟩
 ·show _ = [iv b, iv ((i.2 + 1 : Nat) : Int)]; rw [wr1 (by omega)]
 ·show jbF r ((rL r).drop (i.2 + 1)) b = jbF r (rL r) v; rw [<- hI.2, G9 hi, <- hb, show chA (rL r) i.2 = (rL r)[i.2] from a3h hi]; rfl
theorem g2o : b5s.looks EF Tp 74 := j8.proveL (c := b5s) EF ((Z0.side Kjn).skip) (H := fun a r => jnH a r) (call := fun _ _ => a1a EF ((Z0.side Kjn).skip) Γjn noO (fun _ _ => none) 2) (fun _ _ => o0 _ Kjn 2) fun (a : CL D b5s.ash) (r : RD) (hp : okQ r) =>
 And.intro (⟨(a.1, (0 : Nat)), rfl, rfl, rfl, ⟨C0 _, rfl⟩⟩ : Ent (b8j r a.1) [SV.i .i64 a.1, SV.i .i64 0] [] []) (
 fun (i : Int × Nat) (hI : i.2 <= (rL r).length /\ jbF r ((rL r).drop i.2) i.1 = jbF r (rL r) a.1) =>
 brL fun _ : (rL r).length <= i5 =>
 bq (decide ((i.2 : Int) < ((rL r).length : Nat))) (fun h3 =>
 And.intro (e8n : Ent (b8w (rL r) (jmQ (rSf r) (chA (rL r) i.2).view) 8 9) [SV.i .i64 0, SV.i .i64 0] [] []) (
 fun (j : Nat × Nat) (hJ : j.2 <= (rL r).length /\ j.1 = ((rL r).take j.2).countP (jmQ (rSf r) (chA (rL r) i.2).view)) =>
 brL fun _ : (rL r).length <= i5 =>
 bq (decide ((j.2 : Int) < ((rL r).length : Nat))) (fun h6 =>
 bN (iX (j.2 : Int) (((rL r).length : Nat) : Int)) (ltD h6) (
 bq ((chA (rL r) j.2).node != rSf r) (fun h7 =>
 bN (iX (j.2 : Int) (((rL r).length : Nat) : Int)) (ltD h6) (
 bN (iX (i.2 : Int) (((rL r).length : Nat) : Int)) (ltD h3) (
 bq (decide ((chA (rL r) i.2).view <= (chA (rL r) j.2).view)) (fun h8 => (f5t (j4 h6) hp.len hJ (by show jmQ _ _ _ = true; unfold jmQ; rw [h7, h8]; rfl) : Rnd (b8w (rL r) (jmQ (rSf r) (chA (rL r) i.2).view) 8 9) j [SV.i .i64 (wrap .i64 ((j.1 : Int) + 1)), SV.i .i64 (wrap .i64 ((j.2 : Int) + 1))] [] []))
  (fun h8 => (e8m (j4 h6) hp.len hJ (by show jmQ _ _ _ = false; unfold jmQ; rw [h7, h8]; rfl) : Rnd (b8w (rL r) (jmQ (rSf r) (chA (rL r) i.2).view) 8 9) j [SV.i .i64 (j.1 : Int), SV.i .i64 (wrap .i64 ((j.2 : Int) + 1))] [] [])))))
 (fun h7 => (e8m (j4 h6) hp.len hJ (by show jmQ _ _ _ = false; unfold jmQ; rw [h7]; rfl) : Rnd (b8w (rL r) (jmQ (rSf r) (chA (rL r) i.2).view) 8 9) j [SV.i .i64 (j.1 : Int), SV.i .i64 (wrap .i64 ((j.2 : Int) + 1))] [] [])))) (fun h6 =>
 have ej := e8o hJ h6
 have st (b : Int) (hb : (bif jnT r (chA (rL r) i.2) i.1 then (chA (rL r) i.2).view else i.1) = b) : Rnd (b8j r a.1) i [SV.i .i64 b, SV.i .i64 (wrap .i64 ((i.2 : Int) + 1))] [] [] := g2n hp.len (j4 h3) hI hb
 bN (iX (i.2 : Int) (((rL r).length : Nat) : Int)) (ltD h3) (
 bq ((chA (rL r) i.2).node != rSf r) (fun h7 =>
 bq (decide ((a1f.ret (rCr r, ())).1 <= (j.1 : Int))) (fun h8 =>
 bN (iX (i.2 : Int) (((rL r).length : Nat) : Int)) (ltD h3) (
 bq (decide (i.1 < (chA (rL r) i.2).view)) (fun h9 =>
 bN (iX (i.2 : Int) (((rL r).length : Nat) : Int)) (ltD h3) (
 (st _ (by rw [ej] at h8; unfold jnT; rw [h7, h8, h9]; rfl) : Rnd (b8j r a.1) i [SV.i .i64 (chA (rL r) i.2).view, SV.i .i64 (wrap .i64 ((i.2 : Int) + 1))] [] []))) (fun h9 =>
 (st _ (by rw [ej] at h8; unfold jnT; rw [h7, h8, h9]; rfl) : Rnd (b8j r a.1) i [SV.i .i64 i.1, SV.i .i64 (wrap .i64 ((i.2 : Int) + 1))] [] [])))) (fun h8 =>
 (st _ (by rw [ej] at h8; unfold jnT; rw [h7, h8]; rfl) : Rnd (b8j r a.1) i [SV.i .i64 i.1, SV.i .i64 (wrap .i64 ((i.2 : Int) + 1))] [] []))) (fun h7 =>
 (st _ (by unfold jnT; rw [h7]; rfl) : Rnd (b8j r a.1) i [SV.i .i64 i.1, SV.i .i64 (wrap .i64 ((i.2 : Int) + 1))] [] [])))))) (fun h3 =>
 have e : i.1 = jbF r (rL r) a.1 := by
  have h := hI.2; rw [I8 (by have := A9 h3; omega)] at h
  exact h
 bq (i.1 == a.1) (fun h4 => (by
  show some ((0 : Int), false, ()) = some (bif jbF r (rL r) a.1 == a.1 then (0, false, ()) else (jbF r (rL r) a.1, true, ())); rw [<- e, h4]; rfl : some ((0 : Int), false, ()) = some (b5s.post a r).1)) (fun h4 => (by
  show some (i.1, true, ()) = some (bif jbF r (rL r) a.1 == a.1 then (0, false, ()) else (jbF r (rL r) a.1, true, ())); rw [<- e, h4]; rfl : some (i.1, true, ()) = some (b5s.post a r).1))))
abbrev sN (r st : RD) : RD := (r.1, (rMn st, ()), rBk st, ())
abbrev rhE (r : RD) (c : i4) (x : Int) : RD := sN r (rhP r c x).2
theorem h2c {r : RD} {c : i4} {x : Int} : (rhP r c x).2.1 = r.1 := by
 unfold rhP
 cases x == c.node with
 | true => rfl
 | false => cases x == rSf r with
  | true => rfl
  | false => exact e8j _
theorem g2p {r : RD} {c : i4} {x : Int} : (rhP r c x).2 = rhE r c x := by
 show (rhP r c x).2 = (r.1, (rMn (rhP r c x).2, ()), rBk (rhP r c x).2, ())
 rw [<- h2c (c := c) (x := x)]
theorem d4x {r : RD} {c : i4} {x : Int} : (rBk (rhP r c x).2).length <= (rBk r).length + 1 := by
 unfold rhP
 cases x == c.node with
 | true => exact R4 _
 | false => cases x == rSf r with
  | true => exact R4 _
  | false => exact d8k
def d8o : j8 D := { ash := [.nm 0, .dat (.st 3), .dat .int], es := RS, rsh := [.dat .bool], pes := RS, pre := some (fun _ r => okQ r), post := fun a r => ((rhP r a.1 a.2.1).1, rhE r a.1 a.2.1) }
theorem g2q : d8o.ok EF Tp 109 := by
 have e : d8o = a9w := by
  unfold d8o a9w
  congr 1
  funext a r
  show ((rhP r a.1 a.2.1).1, rhE r a.1 a.2.1) = rhP r a.1 a.2.1; rw [<- g2p]
 rw [e]; exact e8k
def hsF (w : Bool) (c : i4) : RD -> List Int -> Nat × RD
 | r, [] => (0, r)
 | r, x :: l => bif (bif w then x != rSf r else true) then ((bif (rhP r c x).1.1 then 1 else 0) + (hsF w c (rhE r c x) l).1, (hsF w c (rhE r c x) l).2) else hsF w c r l
theorem g8o {w : Bool} {c : i4} : ∀ {l : List Int} {r : RD}, (hsF w c r l).2.1 = r.1
 | [], r => rfl
 | x :: l, r => by
  unfold hsF; cases (bif w then x != rSf r else true) with
  | true => exact g8o (l := l) (r := rhE r c x)
  | false => exact g8o (l := l)
theorem c2s {w : Bool} {c : i4} : ∀ {l : List Int} {r : RD}, (rBk (hsF w c r l).2).length <= (rBk r).length + l.length
 | [], r => B9 _
 | x :: l, r => by
  unfold hsF; rw [I3]; cases (bif w then x != rSf r else true) with
  | true =>
   have h1 := c2s (w := w) (c := c) (l := l) (r := rhE r c x); have h2 := d4x (r := r) (c := c) (x := x); show (rBk (hsF w c (rhE r c x) l).2).length <= _; change _ <= (rBk (rhP r c x).2).length + _ at h1; omega
  | false =>
   have h1 := c2s (w := w) (c := c) (l := l) (r := r); show (rBk (hsF w c r l).2).length <= _; omega
structure hvI (r r0 : RD) (w : Bool) (c : i4) (i : Nat × RD × Nat) : Prop where
  j : i.2.2 <= (rCr r).nodes.length
  n : i.1 <= i.2.2
  e : i.2.1.1 = r.1
  b : (rBk i.2.1).length <= (rBk r0).length + i.2.2
  h : hsF w c r0 (rCr r).nodes = (i.1 + (hsF w c i.2.1 ((rCr r).nodes.drop i.2.2)).1, (hsF w c i.2.1 ((rCr r).nodes.drop i.2.2)).2)
def c2t (r r0 : RD) (w : Bool) (c : i4) (s t : Nat) (I : Nat × RD × Nat -> Prop) : LH D := ⟨Nat × RD × Nat, [s, t], fun i => [iv (i.1 : Int), iv (i.2.2 : Int)], I, fun i => (rCr r).nodes.length - i.2.2, [(.bx 1 0, .sl .u8, 35)], fun i => [.arr (.sl .u8) 35 (rBk i.2.1)], [0, 1], fun i => [a4t r, .box 143 [.own 0, iv (rMn i.2.1)]]⟩
section
variable {r r0 : RD} {w : Bool} {c : i4} {i : Nat × RD × Nat} (hI : hvI r r0 w c i) (hj : i.2.2 < (rCr r).nodes.length)
include hI in
theorem g8p : i.2.1 = sN r i.2.1 := by
 show i.2.1 = (r.1, (rMn i.2.1, ()), rBk i.2.1, ())
 rw [<- hI.e]
include hI hj in
theorem c8r : hsF w c i.2.1 ((rCr r).nodes.drop i.2.2) = bif (bif w then (iA (rCr r).nodes i.2.2) != rSf r else true) then ((bif (rhP (sN r i.2.1) c (iA (rCr r).nodes i.2.2)).1.1 then 1 else 0) + (hsF w c (rhE (sN r i.2.1) c (iA (rCr r).nodes i.2.2)) ((rCr r).nodes.drop (i.2.2 + 1))).1, (hsF w c (rhE (sN r i.2.1) c (iA (rCr r).nodes i.2.2)) ((rCr r).nodes.drop (i.2.2 + 1))).2) else hsF w c i.2.1 ((rCr r).nodes.drop (i.2.2 + 1)) := by
 rw [G9 hj, show iA (rCr r).nodes i.2.2 = (rCr r).nodes[i.2.2] from a3h hj, g8p hI]; rfl
include hI hj in
theorem g8q (hw : (bif w then (iA (rCr r).nodes i.2.2) != rSf r else true) = true) (hb : (rhP (sN r i.2.1) c (iA (rCr r).nodes i.2.2)).1.1 = true) : hvI r r0 w c (i.1 + 1, rhE (sN r i.2.1) c (iA (rCr r).nodes i.2.2), i.2.2 + 1) := by
 refine ⟨hj, by have := hI.n; show i.1 + 1 <= i.2.2 + 1; omega, rfl, ?_, ?_⟩
 ·have h1 := d4x (r := sN r i.2.1) (c := c) (x := iA (rCr r).nodes i.2.2); have h2 := hI.b; show (rBk (rhP (sN r i.2.1) c (iA (rCr r).nodes i.2.2)).2).length <= _; change _ <= (rBk i.2.1).length + 1 at h1; show _ <= (rBk r0).length + (i.2.2 + 1); omega
 ·rw [hI.h, c8r hI hj, hw, hb, B5, B5, <- I6]
include hI hj in
theorem g8r (hw : (bif w then (iA (rCr r).nodes i.2.2) != rSf r else true) = true) (hb : (rhP (sN r i.2.1) c (iA (rCr r).nodes i.2.2)).1.1 = false) : hvI r r0 w c (i.1, rhE (sN r i.2.1) c (iA (rCr r).nodes i.2.2), i.2.2 + 1) := by
 refine ⟨hj, by have := hI.n; show i.1 <= i.2.2 + 1; omega, rfl, ?_, ?_⟩
 ·have h1 := d4x (r := sN r i.2.1) (c := c) (x := iA (rCr r).nodes i.2.2); have h2 := hI.b; show (rBk (rhP (sN r i.2.1) c (iA (rCr r).nodes i.2.2)).2).length <= _; change _ <= (rBk i.2.1).length + 1 at h1; show _ <= (rBk r0).length + (i.2.2 + 1); omega
 ·rw [hI.h, c8r hI hj, hw, hb, B5, B8, F2]
include hI hj in
theorem h2d (hw : (bif w then (iA (rCr r).nodes i.2.2) != rSf r else true) = false) : hvI r r0 w c (i.1, i.2.1, i.2.2 + 1) := by
 refine ⟨hj, by have := hI.n; show i.1 <= i.2.2 + 1; omega, hI.e, P4 hI.b, ?_⟩
 rw [hI.h, c8r hI hj, hw, B8]
end
structure okV (r : RD) : Prop where
  q : okQ r
  bk : (rBk r).length <= 800000000
  nd : (rCr r).nodes.length <= 1000
def a8s (r : RD) (c : i4) : (Bool × Unit) × RD :=
 bif (bif !n8 c then true else !(a0k.ret (rCr r, c.node, ())).1) then ((false, ()), r)
 else bif (bif rIs r c.node then dq (α := i4) (rOw r c.node) c else false) then ((true, ()), r)
 else ((decide ((a1f.ret (rCr r, ())).1 <= ((hsF false c r (rCr r).nodes).1 : Int)), ()), sN r (hsF false c r (rCr r).nodes).2)
def a5u : j8 D := { ash := [.nm 0, .dat (.st 3)], es := RS, rsh := [.dat .bool], pes := RS, pre := some (fun _ r => okV r), post := fun a r => a8s r a.1 }
abbrev Γvc : Nat -> Option (Con D) := j6 (j6 (j6 (j6 (j6 noC 64 c2l) 23 a4o) 110 a1f) 62 a0k) 88 a7c
abbrev Δvc : Nat -> Option (j8 D) := a0h (a0h noO 109 d8o) 147 b8f
theorem Kvc : o8 EF Tp Γvc Δvc := ((((((K0.c c5s).c b2c).c d1y).c c8g).c d7j).o g2q).o d4v
abbrev Λow : Nat -> Option (j8 D) := a0h Λof 71 b5r
theorem Low : a1j EF Tp Λow := Lof.o e8l
abbrev Zvc : ZF Tp D := (Z0.side Kvc).skip
abbrev d8p (H : Nat -> Nat -> Option (Hint D)) (n : Nat) : n3 D := a5m EF Zvc Λow Γvc Δvc H n
theorem c2u (H : Nat -> Nat -> Option (Hint D)) (n : Nat) : n4 Tp (d8p H n) := a1t Low Kvc n
def vcH (a : CL D a5u.ash) (r : RD) : Nat -> Nat -> Option (Hint D) := fun f x => match f, x with
 | 73, 8 => some (.inv (c2t r r false a.1 7 8 (hvI r r false a.1)))
 | _, _ => none
section
variable {r r0 : RD} {w : Bool} {c : i4} {s t : Nat} {i : Nat × RD × Nat}
def f5u {st : RD} (hn : (rCr r).nodes.length <= 1000) (hI : hvI r r0 w c i) (hj : i.2.2 < (rCr r).nodes.length) (h : hvI r r0 w c (i.1 + 1, st, i.2.2 + 1)) :
  Rnd (c2t r r0 w c s t (hvI r r0 w c)) i [SV.i .i64 (wrap .i64 ((i.1 : Int) + 1)), SV.i .i64 (wrap .i64 ((i.2.2 : Int) + 1))] [HB.arr (.sl .u8) 35 (rBk st)] [a4t r, .box 143 [.own 0, iv (rMn st)]] := by
 have := hI.n
 refine ⟨(i.1 + 1, st, i.2.2 + 1), ?_, rfl, rfl, h, by show (rCr r).nodes.length - (i.2.2 + 1) < (rCr r).nodes.length - i.2.2; omega⟩
 show _ = [iv ((i.1 + 1 : Nat) : Int), iv ((i.2.2 + 1 : Nat) : Int)]
 rw [wr1 (by omega), wr1 (by omega)]
def e8p {st : RD} (hn : (rCr r).nodes.length <= 1000) (hj : i.2.2 < (rCr r).nodes.length) (h : hvI r r0 w c (i.1, st, i.2.2 + 1)) :
  Rnd (c2t r r0 w c s t (hvI r r0 w c)) i [SV.i .i64 (i.1 : Int), SV.i .i64 (wrap .i64 ((i.2.2 : Int) + 1))] [HB.arr (.sl .u8) 35 (rBk st)] [a4t r, .box 143 [.own 0, iv (rMn st)]] := by
 refine ⟨(i.1, st, i.2.2 + 1), ?_, rfl, rfl, h, by show (rCr r).nodes.length - (i.2.2 + 1) < (rCr r).nodes.length - i.2.2; omega⟩
 show _ = [iv (i.1 : Int), iv ((i.2.2 + 1 : Nat) : Int)]
 rw [wr1 (by omega)]
def e8q (hb : (rBk r0).length <= 890000000) (hn : (rCr r).nodes.length <= 1000) (hq : okQ r) (hI : hvI r r0 w c i) : okQ (sN r i.2.1) :=
 ⟨by have h1 := hI.b; have h2 := hI.j; show (rBk i.2.1).length <= 900000000; omega, hq.len, hq.ch, hq.al⟩
def e8r (hI : hvI r r0 w c i) (h : decide ((i.2.2 : Int) < ((rCr r).nodes.length : Int)) = false) : hsF w c r0 (rCr r).nodes = (i.1, i.2.1) := by
 have hh := hI.h
 rw [I8 (by have := A9 h; omega)] at hh
 exact hh
end
def g2r : a5u.ok EF Tp 73 := j8.proveH (c := a5u) EF Zvc (H := fun a r => vcH a r) (call := fun _ _ => d8p (fun _ _ => none) 1) (fun _ _ => c2u _ 1) fun (a : CL D a5u.ash) (r : RD) (hp : okV r) =>
 bq (!n8 a.1) (fun h1 => (by
  show some ((false, ()), r) = some (a8s r a.1); unfold a8s; rw [h1]; rfl : some ((false, ()), r) = some (a5u.post a r))) (fun h1 =>
 bq (!(a0k.ret (rCr r, a.1.node, ())).1) (fun h2 => (by
  show some ((false, ()), r) = some (a8s r a.1); unfold a8s; rw [h1, h2]; rfl : some ((false, ()), r) = some (a5u.post a r))) (fun h2 =>
 pQ (okQ r) hp.q (
 bq (bif rIs r a.1.node then dq (α := i4) (rOw r a.1.node) a.1 else false) (fun h3 => (by
  show some ((true, ()), r) = some (a8s r a.1); unfold a8s; rw [h1, h2, h3]; rfl : some ((true, ()), r) = some (a5u.post a r))) (fun h3 =>
 And.intro (⟨((0 : Nat), r, (0 : Nat)), rfl, rfl, rfl, ⟨C0 _, B9 _, rfl, B9 _, by rw [F2]; rfl⟩⟩ : Ent (c2t r r false a.1 7 8 (hvI r r false a.1)) [SV.i .i64 0, SV.i .i64 0] [HB.arr (.sl .u8) 35 (rBk r)] [a4t r, .box 143 [.own 0, iv (rMn r)]]) (
 fun (i : Nat × RD × Nat) (hI : hvI r r false a.1 i) =>
 brL fun _ : (rCr r).nodes.length <= i5 =>
 bq (decide ((i.2.2 : Int) < ((rCr r).nodes.length : Nat))) (fun h6 =>
 bN (iX (i.2.2 : Int) (((rCr r).nodes.length : Nat) : Int)) (ltD h6) (
 pQ (okQ (sN r i.2.1)) (e8q (by have := hp.bk; omega) hp.nd hp.q hI) (
 bq ((rhP (sN r i.2.1) a.1 (iA (rCr r).nodes i.2.2)).1.1) (fun h7 => (f5u hp.nd hI (j4 h6) (g8q hI (j4 h6) rfl h7) : Rnd (c2t r r false a.1 7 8 (hvI r r false a.1)) i [SV.i .i64 (wrap .i64 ((i.1 : Int) + 1)), SV.i .i64 (wrap .i64 ((i.2.2 : Int) + 1))] [HB.arr (.sl .u8) 35 (rBk (rhE (sN r i.2.1) a.1 (iA (rCr r).nodes i.2.2)))] [a4t r, .box 143 [.own 0, iv (rMn (rhE (sN r i.2.1) a.1 (iA (rCr r).nodes i.2.2)))]]))
  (fun h7 => (e8p hp.nd (j4 h6) (g8r hI (j4 h6) rfl h7) : Rnd (c2t r r false a.1 7 8 (hvI r r false a.1)) i [SV.i .i64 (i.1 : Int), SV.i .i64 (wrap .i64 ((i.2.2 : Int) + 1))] [HB.arr (.sl .u8) 35 (rBk (rhE (sN r i.2.1) a.1 (iA (rCr r).nodes i.2.2)))] [a4t r, .box 143 [.own 0, iv (rMn (rhE (sN r i.2.1) a.1 (iA (rCr r).nodes i.2.2)))]]))))) (fun h6 =>
 (by
  show some ((decide ((a1f.ret (rCr r, ())).1 <= (i.1 : Int)), ()), sN r i.2.1) = some (a8s r a.1); unfold a8s; rw [h1, h2, h3, e8r hI h6]; rfl : some ((decide ((a1f.ret (rCr r, ())).1 <= (i.1 : Int)), ()), sN r i.2.1) = some (a5u.post a r))))))))
end
end Go.Proofs.YtpbcabanpppfoaaGreat
