/- ChangePlays: for every input the statement answers true. No condition. -/
import Derived.Test.YtpbcabanpppfoaaGreatA15
set_option linter.all false
namespace Go.Proofs.YtpbcabanpppfoaaGreat
open Go Go.Gx Go.Vz
open Go.IntKind (wrap)
open List (flatMap getD length take replicate)
set_option maxRecDepth 100000
set_option maxHeartbeats 0
noncomputable section
abbrev xP (a : HL D f3u.ts) (i : KD × RD × Nat) : Do := a.2.2.1.getD (((i.2.2 : Nat) : Int) + 0).toNat (Ty.dflt D (.st 13))
abbrev nJ (n : KD × RD × Nat) : Int := ((n.2.2 : Nat) : Int) + 0
abbrev vJ (n : KD × RD × Nat) : Int := ((n.2.2 : Nat) : Int) + (-1 : Int)
abbrev cX (n : KD × RD × Nat) : i4 := (sd (kCh n.1) (nJ n)).change
abbrev dE : Prop := (some (false, ()) : Option (HL D [.bool])) = some (true, ())
def g9b {C : a0n} {me : Int} (h : (bif (a0j.ret (C, ())).1 != 0 then true else !(a8n.ret (C, me, ())).1) = false) : C.nodes.length <= 7 := by
 have h : (bif a1d C != (0 : Int) then true else !b6y C me) = false := h
 cases hc : a1d C != 0 with
 | true => rw [hc] at h; cases h
 | false => exact (a2d (by simpa using hc)).1
def f3v : f3u.ok Tp 7 := Con.proveH (c := f3u) EF Zpl (H := fun _ => plH) (call := fun _ => c8z plH 6) (fun _ => b7i plH 6) fun (a : HL D f3u.ts) (hp : plD a.2.2.1) =>
 brL fun _ : a.1.nodes.length <= i5 =>
 And.intro (bq (decide (0 < ((a.1.nodes.length : Nat) : Int))) (fun h2 =>
 brL fun _ : a.1.nodes.length <= i5 =>
 nM (a3k.ret (a.2.1.l.getD (0 : Int).toNat (0 : Int), min ((a.1.nodes.length : Nat) : Int) (4 : Int), ())) (fun q4 h4 =>
 bN (iX q4.1 ((a.1.nodes.length : Nat) : Int)) (plI (by have := A6 h2; omega) h4) (
 (⟨a.1.nodes.getD q4.1.toNat (Ty.dflt D .int), rfl, rfl, rfl, trivial⟩ : Ent g3d [SV.i .i64 (a.1.nodes.getD q4.1.toNat (Ty.dflt D .int))] [] [])))) (fun _ =>
 (⟨(0 : Int), rfl, rfl, rfl, trivial⟩ : Ent g3d [SV.i .i64 0] [] []))) (
 fun (me : Int) (_ : True) =>
 nM (c3n.post () ()) (fun q3 _ =>
 bq (bif (a0j.ret (a.1, ())).1 != 0 then true else !(a8n.ret (a.1, me, ())).1) (fun h4 =>
 bq (bif (a2v.ret (a.1, ())).1 != 0 then true else !(a0k.ret (a.1, me, ())).1) (fun h5 => brL fun _ : a.2.2.1.length <= i5 =>
 pQ ((bif bif decide (0 < ((a.2.2.1.length : Nat) : Int)) then decide ((0 : Int) < 60) else false then (110 : Int) == 0 else false) = false) (by cases (bif decide (0 < ((a.2.2.1.length : Nat) : Int)) then decide ((0 : Int) < 60) else false) <;> rfl) (rfl : some (true, ()) = some (true, ()))) (fun h5 =>
 bq (bif bif bif decide ((a.2.1.l.getD (1 : Int).toNat (0 : Int)) < (0 : Int)) then true else decide (2 < (a.2.1.l.getD (1 : Int).toNat (0 : Int))) then true else decide ((1 : Int) < 0) then true else decide ((1048576 : Int) < 1)) (fun _ => (absurd h4 (by rw [<- plE, h5]; exact J3) : dE)) (fun _ => pQ (a.1.nodes.length * 8 <= i5) (absurd h4 (by rw [<- plE, h5]; exact J3)) (absurd h4 (by rw [<- plE, h5]; exact J3) : dE)))) (fun h4 =>
 bq (bif bif bif decide ((a.2.1.l.getD (1 : Int).toNat (0 : Int)) < (0 : Int)) then true else decide (2 < (a.2.1.l.getD (1 : Int).toNat (0 : Int))) then true else decide ((1 : Int) < 0) then true else decide ((1048576 : Int) < 1)) (fun h5 =>
 bq (bif (a2v.ret (a.1, ())).1 != 0 then true else !(a0k.ret (a.1, me, ())).1) (fun h6 => (absurd h6 (by rw [plE, h4]; exact J3) : dE)) (fun _ =>
 bq (bif bif bif decide ((a.2.1.l.getD (1 : Int).toNat (0 : Int)) < (0 : Int)) then true else decide (2 < (a.2.1.l.getD (1 : Int).toNat (0 : Int))) then true else decide ((1 : Int) < 0) then true else decide ((1048576 : Int) < 1)) (fun _ => brL fun _ : a.2.2.1.length <= i5 =>
 pQ ((bif bif decide (0 < ((a.2.2.1.length : Nat) : Int)) then decide ((0 : Int) < 60) else false then (2 : Int) == 0 else false) = false) (by cases (bif decide (0 < ((a.2.2.1.length : Nat) : Int)) then decide ((0 : Int) < 60) else false) <;> rfl) (rfl : some (true, ()) = some (true, ()))) (fun h7 => pQ (a.1.nodes.length * 8 <= i5) (absurd h5 (by rw [h7]; exact J3)) (absurd h5 (by rw [h7]; exact J3) : dE)))) (fun h5 =>
 pQ (a.1.nodes.length <= 1000000) (D5 (g9b h4) (by decide)) (
 bq (bif (a2v.ret (a.1, ())).1 != 0 then true else !(a0k.ret (a.1, me, ())).1) (fun h6 => (absurd h6 (by rw [plE, h4]; exact J3) : dE)) (fun _ =>
 bq (bif bif bif decide ((a.2.1.l.getD (1 : Int).toNat (0 : Int)) < (0 : Int)) then true else decide (2 < (a.2.1.l.getD (1 : Int).toNat (0 : Int))) then true else decide ((1 : Int) < 0) then true else decide ((1048576 : Int) < 1)) (fun h7 => (absurd h7 (by rw [h5]; exact J3) : dE)) (fun _ =>
 pQ (a.1.nodes.length * 8 <= i5) (D5 (M4 8 (g9b h4)) (by decide)) (
 And.intro (⟨((((a.1, me, (a.2.1.l.getD (1 : Int).toNat (0 : Int)), 1, ()), (q3.2.1.1, ()), [], [], q3.2.2.1, q3.2.2.2.1, ()) : KD), (((a.1, me, (a.2.1.l.getD (1 : Int).toNat (0 : Int)), 1, [], [], ()), ((0 : Int), ()), [], ()) : RD), (0 : Nat)), rfl, rfl, rfl, ⟨C0 _, SX.new h4⟩⟩ : Ent (c9a 13 0 60 0 1000) [SV.i .i64 0] [HB.arr (.sl .u8) 35 []] (plC ((a.1, me, (a.2.1.l.getD (1 : Int).toNat (0 : Int)), 1, ()), (q3.2.1.1, ()), [], [], q3.2.2.1, q3.2.2.2.1, ()) ((a.1, me, (a.2.1.l.getD (1 : Int).toNat (0 : Int)), 1, [], [], ()), ((0 : Int), ()), [], ()))) (
 fun (i : KD × RD × Nat) (hI : i.2.2 <= 60 /\ SX (0 + 1000 * i.2.2) i.1 i.2.1) =>
 have hi60 := hI.1
 brL fun _ : a.2.2.1.length <= i5 =>
 bq (bif bif decide (((i.2.2 : Nat) : Int) + 0 < ((a.2.2.1.length : Nat) : Int)) then decide (((i.2.2 : Nat) : Int) + 0 < (60 : Int)) else false then (0 : Int) == 0 else false) (fun h10 =>
 have hx := plX h10
 have hd : bdN (xP a i).note /\ bdC (xP a i).change := hp _ (a4f (by omega))
 have TELLS := fun (d : Nat) (k : KD) (r : RD) (S : SX (0 + 1000 * i.2.2 + 1) k r) =>
 bN (iX (((i.2.2 : Nat) : Int) + 0) ((a.2.2.1.length : Nat) : Int)) (plJ hx.1) (
 pQ (okK k) S.ok (
 nM ((b5v.post () k).1) (fun q1 hq1 =>
 pQ (okQ r) (S.q (by omega)) (
 nM ((b5r.post () r).1) (fun q2 hq2 =>
 have E2 : q1 = q2 := by rw [<- hq1, <- hq2]; exact S.own
 bq (q1.2.1 != q2.2.1) (fun h => ((plN (by rw [E2]) h).elim : dE)) (fun _ =>
 bq (!(a4o.ret (q1.1, q2.1, ())).1) (fun h => ((g3e (by rw [E2]) h).elim : dE)) (fun _ =>
 pQ (okK k) S.ok (
 nM ((c2w.post () k).1) (fun q3 hq3 =>
 pQ (okV r) (S.v (by omega)) (
 nM (b8k.post () r) (fun q4 hq4 =>
 have R : q3.1 = q4.1.1 /\ SX (0 + 1000 * i.2.2 + 1 + 7) k q4.2 := by rw [<- hq3, <- hq4]; exact S.retell
 bq (!(a9z.ret (q3.1, q4.1.1, ())).1) (fun h => ((h2i R.1 h).elim : dE)) (fun _ =>
 pQ (okK k) S.ok (
 nM (a5g.post ((xP a i).change, ()) k) (fun q5 hq5 =>
 pQ (okV q4.2) (R.2.v (by omega)) (
 nM (a5u.post ((xP a i).change, ()) q4.2) (fun q6 hq6 =>
 have V : q5.1 = q6.1 /\ SX (0 + 1000 * i.2.2 + 1 + 7 + 7) q5.2 q6.2 := by rw [<- hq5, <- hq6]; exact R.2.vouched _
 have b9 := V.2.bd
 bq (q5.1.1 != q6.1.1) (fun h => ((plN (by rw [V.1]) h).elim : dE)) (fun _ =>
 And.intro (⟨(q5.2, q6.2, (0 : Nat)), rfl, rfl, rfl, ⟨C0 _, V.2.ex⟩⟩ : Ent (c9a 9 (-1) 8 (rBk q6.2).length 60) [SV.i .i64 (-1 : Int)] [HB.arr (.sl .u8) 35 (rBk q6.2)] (plC q5.2 q6.2)) (
 fun (j : KD × RD × Nat) (hJ : j.2.2 <= 8 /\ SX ((rBk q6.2).length + 60 * j.2.2) j.1 j.2.1) =>
 have SJ := hJ.2
 have hj8 := hJ.1
 have b14 := SJ.bd
 bq (decide ((vJ j) < (7 : Int))) (fun h =>
 have hj : j.2.2 + 1 <= 8 := by have : ((j.2.2 : Nat) : Int) + (-1 : Int) < 7 := A6 h; omega
 pQ (okK j.1) SJ.ok (
 nM ((b3q.post ((vJ j), ()) j.1).1) (fun q7 hq7 =>
 pQ (okQ j.2.1) (SJ.q (by omega)) (
 nM ((b5s.post ((vJ j), ()) j.2.1).1) (fun q8 hq8 =>
 have E8 : q7 = q8 := by rw [<- hq7, <- hq8]; exact SJ.join (vJ j)
 bq (q7.1 != q8.1) (fun h => ((plN (by rw [E8]) h).elim : dE)) (fun _ =>
 bq (q7.2.1 != q8.2.1) (fun h => ((plN (by rw [E8]) h).elim : dE)) (fun _ =>
 pQ (okK j.1) SJ.ok (
 nM ((b5e.post ((vJ j), ()) j.1).1) (fun q9 hq9 =>
 pQ (okQ j.2.1) (SJ.q (by omega)) (
 nM ((b8i.post ((vJ j), ()) j.2.1).1) (fun q10 hq10 =>
 have E10 : q9 = q10 := by rw [<- hq9, <- hq10]; exact SJ.behind (vJ j)
 bq (q9.1 != q10.1) (fun h => ((plN (by rw [E10]) h).elim : dE)) (fun _ =>
 pQ (okK j.1) SJ.ok (
 nM ((b2z.post ((vJ j), ()) j.1).1) (fun q11 hq11 =>
 pQ (okV j.2.1) (SJ.v (by omega)) (
 nM (b5t.post ((vJ j), ()) j.2.1) (fun q12 hq12 =>
 have R : q11.1 = q12.1.1 /\ SX ((rBk q6.2).length + 60 * j.2.2 + 49) j.1 q12.2 := by rw [<- hq11, <- hq12]; exact SJ.ready (vJ j)
 bq (!(b5i.ret (q11.1, q12.1.1, ())).1) (fun h => ((h2j R.1 h).elim : dE)) (fun _ =>
 (⟨(j.1, q12.2, j.2.2 + 1), by
  show [SV.i .i64 (wrap .i64 ((vJ j) + 1))] = [iv (((j.2.2 + 1 : Nat) : Int) + (-1))]; rw [plW (by omega) (by decide) (by decide)], rfl, rfl, ⟨hj, (show SX ((rBk q6.2).length + 60 * (j.2.2 + 1)) j.1 q12.2 from R.2.up (by omega))⟩, by show 8 - (j.2.2 + 1) < 8 - j.2.2; omega⟩ : Rnd (c9a 9 (-1) 8 (rBk q6.2).length 60) j [SV.i .i64 (wrap .i64 ((vJ j) + (1 : Int)))] [HB.arr (.sl .u8) 35 (rBk q12.2)] (plC j.1 q12.2))))))))))))))))))) (fun _ =>
 And.intro (⟨(j.1, j.2.1, (0 : Nat)), rfl, rfl, rfl, ⟨C0 _, SJ.ey⟩⟩ : Ent (c9a 14 0 30 (rBk j.2.1).length 10) [SV.i .i64 0] [HB.arr (.sl .u8) 35 (rBk j.2.1)] (plC j.1 j.2.1)) (
 fun (n : KD × RD × Nat) (hN : n.2.2 <= 30 /\ SX ((rBk j.2.1).length + 10 * n.2.2) n.1 n.2.1) =>
 have SN := hN.2
 have hn30 := hN.1
 bq (decide ((nJ n) < (30 : Int))) (fun h =>
 have hn : n.2.2 + 1 <= 30 := by have : ((n.2.2 : Nat) : Int) + 0 < 30 := A6 h; omega
 And.intro ((SN.len (nJ n)).1 : (cX n).mz.length <= 1000000) (
 And.intro ((SN.len (nJ n)).2.1 : (cX n).p.length <= 1000000) (
 And.intro ((SN.len (nJ n)).2.2 : (cX n).q.length <= 1000000) (
 pQ (okQ n.2.1) (SN.q (by omega)) (
 nM ((b3d.post ((nJ n), ()) n.2.1).1) (fun q13 hq13 =>
 have E13 : (cX n) = q13.1 /\ (sdO (kCh n.1) (nJ n)).isSome = q13.2.1 := by rw [<- hq13]; exact SN.of (nJ n)
 bq ((sdO (kCh n.1) (nJ n)).isSome != q13.2.1) (fun h => ((plN E13.2 h).elim : dE)) (fun _ =>
 bq (!(a4o.ret ((cX n), q13.1, ())).1) (fun h => ((g3e E13.1 h).elim : dE)) (fun _ =>
 have TAIL := fun (kk : KD) (rr : RD) (SS : SX ((rBk j.2.1).length + 10 * (n.2.2 + 1)) kk rr) =>
 And.intro (⟨((cX n), (0 : Nat)), rfl, rfl, rfl, ⟨C0 _, (SN.len (nJ n)).1⟩⟩ : Ent (e8z d) [SV.i .i64 0] [HB.arr (.st 1) 116 (cX n).mz, HB.arr (.st 2) 118 (cX n).p, HB.arr (.st 2) 118 (cX n).q] [HB.box 41 [iv (cX n).node, iv (cX n).view, iv (cX n).low, .own 0, .own 1, .own 2]]) (
 fun (m : i4 × Nat) (hM : m.2 <= m.1.mz.length /\ m.1.mz.length <= 1000000) =>
 bq (decide ((m.2 : Int) < (m.1.mz.length : Nat))) (fun h =>
 bN (iX (m.2 : Int) ((m.1.mz.length : Nat) : Int)) (ltD h) (
 (⟨({ m.1 with mz := m.1.mz.set (m.2 : Int).toNat ⟨-1, (m.1.mz.getD (m.2 : Int).toNat (Ty.dflt D (.st 1))).dig⟩ }, m.2 + 1), by
  show [SV.i .i64 (wrap .i64 ((m.2 : Int) + 1))] = [iv ((m.2 + 1 : Nat) : Int)]; rw [wr1 (D5 hM.1 hM.2)], rfl, rfl, by
  have e : (m.1.mz.set (m.2 : Int).toNat ⟨-1, (m.1.mz.getD (m.2 : Int).toNat (Ty.dflt D (.st 1))).dig⟩).length = m.1.mz.length := P1; show m.2 + 1 <= (m.1.mz.set _ _).length /\ (m.1.mz.set _ _).length <= 1000000; rw [e]; exact ⟨j4 h, hM.2⟩, by
  show (m.1.mz.set _ _).length - (m.2 + 1) < m.1.mz.length - m.2; rw [P1]; exact a2t h⟩ : Rnd (e8z d) m [SV.i .i64 (wrap .i64 ((m.2 : Int) + 1))] [HB.arr (.st 1) 116 (m.1.mz.set (m.2 : Int).toNat ⟨-1, (m.1.mz.getD (m.2 : Int).toNat (Ty.dflt D (.st 1))).dig⟩), HB.arr (.st 2) 118 m.1.p, HB.arr (.st 2) 118 m.1.q] [HB.box 41 [iv m.1.node, iv m.1.view, iv m.1.low, .own 0, .own 1, .own 2]]))) (fun _ =>
 (⟨(kk, rr, n.2.2 + 1), by
  show [SV.i .i64 (wrap .i64 ((nJ n) + 1))] = [iv (((n.2.2 + 1 : Nat) : Int) + 0)]; rw [plW (by omega) (by decide) (by decide)], rfl, rfl, ⟨hn, SS⟩, by show 30 - (n.2.2 + 1) < 30 - n.2.2; omega⟩ : Rnd (c9a 14 0 30 (rBk j.2.1).length 10) n [SV.i .i64 (wrap .i64 ((nJ n) + (1 : Int)))] [HB.arr (.sl .u8) 35 (rBk rr)] (plC kk rr))))
 bq ((sdO (kCh n.1) (nJ n)).isSome) (fun hs =>
 have M := SN.may hs
 pQ ((!(a8n.ret (kCr n.1, (cX n).node, ())).1) = false) (by show (!b6y (kCr n.1) (cX n).node) = false; rw [M.2.2, M.1]; rfl) (
 And.intro (M.2.1 : n8 (cX n) = true) (
 pQ ((j0 (cX n)).length <= 65536) (h2k M.2.1) (
 And.intro ((SN.len (nJ n)).1 : (cX n).mz.length <= 1000000) (
 And.intro ((SN.len (nJ n)).2.1 : (cX n).p.length <= 1000000) (
 And.intro ((SN.len (nJ n)).2.2 : (cX n).q.length <= 1000000) (
 bq ((sdO (kCh n.1) (cX n).node).isSome) (fun _ =>
 pQ ((sd (kCh n.1) (cX n).node).change = (cX n)) (by rw [M.2.2]) (
 pQ (okV n.2.1) (SN.v (by omega)) (
 nM (a5u.post (q13.1, ()) n.2.1) (fun q14 hq14 =>
 have V : q14.1 = (true, ()) /\ SX ((rBk j.2.1).length + 10 * n.2.2 + 7) (a2f n.1 (j0 (cX n))) q14.2 := by rw [<- hq14]; exact SN.vow hs E13.1
 bq (true != q14.1.1) (fun h => ((plN (by rw [V.1]) h).elim : dE)) (fun _ =>
 TAIL (a2f n.1 (j0 (cX n))) q14.2 (V.2.up (by omega))))))) (fun ht =>
 pQ (okK (a2f n.1 (j0 (cX n)))) (SN.ink _).ok (
 nM ((b7y.post (dgS (cX n), (0 : Int), ()) (a2f n.1 (j0 (cX n)))).1) (fun q14 hq14 =>
 pQ (okV n.2.1) (SN.v (by omega)) (
 nM (a5u.post (q13.1, ()) n.2.1) (fun q15 hq15 =>
 have V : q15.1 = (true, ()) /\ SX ((rBk j.2.1).length + 10 * n.2.2 + 7) (a2f n.1 (j0 (cX n))) q15.2 := by rw [<- hq15]; exact SN.vow hs E13.1
 bq (decide ((a7z.ret (kCr n.1, ())).1 <= q14.1) != q15.1.1) (fun _ => (absurd hs (by rw [M.2.2] at ht; rw [ht]; exact J3) : dE)) (fun _ => TAIL (a2f n.1 (j0 (cX n))) q15.2 (V.2.up (by omega))))))))))))))) (fun _ => TAIL n.1 n.2.1 (SN.up (by omega))))))))))) (fun _ =>
 (⟨(n.1, n.2.1, i.2.2 + 1), by
  show [SV.i .i64 (wrap .i64 (((i.2.2 : Nat) : Int) + 0 + 1))] = [iv (((i.2.2 + 1 : Nat) : Int) + 0)]; rw [plW (by omega) (by decide) (by decide)], rfl, rfl, ⟨hx.2, (show SX (0 + 1000 * (i.2.2 + 1)) n.1 n.2.1 from SN.up (by omega))⟩, by show 60 - (i.2.2 + 1) < 60 - i.2.2; omega⟩ : Rnd (c9a 13 0 60 0 1000) i [SV.i .i64 (wrap .i64 (((i.2.2 : Nat) : Int) + 0 + (1 : Int)))] [HB.arr (.sl .u8) 35 (rBk n.2.1)] (plC n.1 n.2.1)))))))))))))))))))))))
 bN (iX (((i.2.2 : Nat) : Int) + 0) ((a.2.2.1.length : Nat) : Int)) (plJ hx.1) (
 nM (a3k.ret ((xP a i).kind, (2 : Int), ())) (fun q11 _ =>
 bq (q11.1 == 1) (fun _ =>
 pQ (bdC (xP a i).change) hd.2 (
 nM (a5t.post ((xP a i).change, ()) i.1) (fun q12 hq12 =>
 pQ (okQ i.2.1) (hI.2.q (by omega)) (
 nM (b1m.post ((xP a i).change, ()) i.2.1) (fun q13 hq13 =>
 have V : q12.1 = q13.1 /\ SX (0 + 1000 * i.2.2 + 1) q12.2 q13.2 := by rw [<- hq12, <- hq13]; exact hI.2.leave _
 bq (bif q12.1.2.1 == q13.1.2.1 then (a9z.ret (q12.1.1, q13.1.1, ())).1 else false) (fun _ =>
 bq (!(a4o.ret ((xP a i).change, (xP a i).change, ())).1) (fun h => ((g3e rfl h).elim : dE)) (fun _ => TELLS 93 q12.2 q13.2 V.2)) (fun h => ((plL V.1 h).elim : dE))))))) (fun _ =>
 pQ (bdN (xP a i).note) hd.1 (
 nM (c2q.ret ((xP a i).note, (xP a i).change, ())) (fun q12 hq12 =>
 pQ (bdN q12.1) (by rw [<- hq12]; exact f3t hd.1) (
 nM (a1k.post (q12.1, ()) i.1) (fun q13 hq13 =>
 pQ (okQ i.2.1) (hI.2.q (by omega)) (
 nM (a3e.post (q12.1, ()) i.2.1) (fun q14 hq14 =>
 have V : q13.1 = q14.1 /\ SX (0 + 1000 * i.2.2 + 1) q13.2 q14.2 := by rw [<- hq13, <- hq14]; exact hI.2.take _
 bq (!bif bif q13.1.2.1 == q14.1.2.1 then (a9z.ret (q13.1.1, q14.1.1, ())).1 else false then (c1s.ret (q12.1, q12.1, ())).1 else false) (fun h => ((plT V.1 h).elim : dE)) (fun _ =>
 TELLS 95 q13.2 q14.2 V.2))))))))))) (fun _ => (rfl : some (true, ()) = some (true, ()))))))))))))
end
end Go.Proofs.YtpbcabanpppfoaaGreat
namespace Go.Proofs.YtpbcabanpppfoaaGreat
open Go Go.Gx Go.Vz Go.RowKit Go.ChangeShapes Go.WideShapes Go.ChangeAt
theorem b5x {P : Program} {α : Type} [Rp α] {T : Nat} (h : Opn P α T) : a5j P α T fun _ => True := fun enc W sp fuel cs d ps hd hw => by
 obtain ⟨x, h1⟩ := h enc W sp fuel cs d ps hd hw
 exact ⟨x, h1, trivial⟩
theorem a3c {P : Program} {α : Type} [Rp α] {B : α -> Prop} {T e b : Nat} (hT : P.underlying T = some (.slice e)) (hc : P.cellsOf e = Rp.sz α) (hz : 0 < Rp.sz α) (he : P.bytesOf e = b) (hb : 0 < b) (h : a5j P α e B) : a5j P (List α) T fun l => l.length * b <= reachBytes /\ ∀ x ∈ l, B x := by
 subst he
 exact d9a hT hc hz hb h
abbrev e9a (x : u9) : Prop := (x.data.length * 1 <= reachBytes /\ ∀ y2 ∈ x.data, True) /\ (x.next.length * 8 <= reachBytes /\ ∀ y2 ∈ x.next, True)
abbrev B37 (x : a0y) : Prop := (x.data.length * 1 <= reachBytes /\ ∀ y1 ∈ x.data, True) /\ (x.nodes.length * 8 <= reachBytes /\ ∀ y1 ∈ x.nodes, True)
abbrev B41 (x : i4) : Prop := (x.mz.length * 40 <= reachBytes /\ ∀ y1 ∈ x.mz, True) /\ (x.p.length * 48 <= reachBytes /\ ∀ y1 ∈ x.p, True) /\ (x.q.length * 48 <= reachBytes /\ ∀ y1 ∈ x.q, True)
abbrev g3f (x : a1b) : Prop := (x.batch.length * 112 <= reachBytes /\ ∀ y2 ∈ x.batch, e9a y2)
abbrev B46 (x : i8) : Prop := (x.batch.length * 112 <= reachBytes /\ ∀ y1 ∈ x.batch, e9a y1) /\ B37 x.answer /\ B41 x.change /\ (x.changes.length * 96 <= reachBytes /\ ∀ y1 ∈ x.changes, B41 y1) /\ (x.picks.length * 64 <= reachBytes /\ ∀ y1 ∈ x.picks, g3f y1) /\ (x.digests.length * 32 <= reachBytes /\ ∀ y1 ∈ x.digests, True) /\ (x.data.length * 1 <= reachBytes /\ ∀ y1 ∈ x.data, True) /\ (x.nodes.length * 8 <= reachBytes /\ ∀ y1 ∈ x.nodes, True)
abbrev B86 (x : Do) : Prop := B46 x.note /\ B41 x.change
theorem g3g : Tryz.prog.underlying 3 = some (.int .i64) := by kernel_rfl
theorem a3w : Opn Tryz.prog Int 3 := e1b g3g
theorem g9c : Tryz.prog.underlying 33 = some (.array 32 5) := by kernel_rfl
theorem e0s : Tryz.prog.cellsOf 33 = 32 := by kernel_rfl
theorem g9d : Tryz.prog.underlying 5 = some (.int .u8) := by kernel_rfl
theorem ce5 : Tryz.prog.cellsOf 5 = 1 := by kernel_rfl
theorem d2f : Opn Tryz.prog Dig 33 := f6q g9c g9d e0s ce5
theorem h2l : Opn Tryz.prog UInt8 5 := f4a g9d
theorem g9e : Tryz.prog.underlying 35 = some (.slice 5) := by kernel_rfl
theorem be5 : Tryz.prog.bytesOf 5 = 1 := by kernel_rfl
theorem f5y : Tryz.prog.underlying 22 = some (.slice 3) := by kernel_rfl
theorem ce3 : Tryz.prog.cellsOf 3 = 1 := by kernel_rfl
theorem be3 : Tryz.prog.bytesOf 3 = 8 := by kernel_rfl
theorem g9f : Opn Tryz.prog (List Int) 22 := c9e f5y (by rw [ce3]; rfl) (by decide) (by rw [be3]; decide) a3w
theorem g3h : Tryz.prog.cellsOf 35 = 1 := by kernel_rfl
theorem f3w : Tryz.prog.cellsOf 22 = 1 := by kernel_rfl
theorem f5z : Tryz.prog.cellsOf 211 = 10 := by kernel_rfl
theorem g9g : fieldsOf Tryz.prog 211 [(3, 0), (3, 1), (3, 2), (3, 3), (3, 4), (3, 5), (35, 6), (3, 7), (3, 8), (22, 9)] = true := by kernel_rfl
theorem g9h : Tryz.prog.underlying 34 = some (.slice 211) := by kernel_rfl
theorem g9i : Tryz.prog.bytesOf 211 = 112 := by kernel_rfl
theorem g9j : Tryz.prog.underlying 29 = some (.int .i64) := by kernel_rfl
theorem g9k : Opn Tryz.prog Int 29 := e1b g9j
theorem h2m : Tryz.prog.cellsOf 29 = 1 := by kernel_rfl
theorem g9l : Tryz.prog.cellsOf 37 = 4 := by kernel_rfl
theorem h2n : fieldsOf Tryz.prog 37 [(29, 0), (35, 1), (3, 2), (22, 3)] = true := by kernel_rfl
theorem f6a : Tryz.prog.cellsOf 116 = 33 := by kernel_rfl
theorem g9m : fieldsOf Tryz.prog 116 [(3, 0), (33, 1)] = true := by kernel_rfl
theorem g3i : Opn Tryz.prog Mark 116 := by
 intro H enc W sp fuel cs d ps hd hw
 obtain ⟨hl, ds, ha⟩ := a2b g9m hd hw
 rw [f6a] at hl
 match ds, ha with
 | [d0, d1], ⟨⟨f0, p0, h0⟩, w0, ⟨⟨f1, p1, h1⟩, w1, _⟩⟩ =>
  obtain ⟨x0, e0⟩ := a3w enc W sp f0 _ d0 p0 h0 w0; rw [ce3] at e0; have e0 : (cs.drop 0).take 1 = [.int .i64 x0] := e0; obtain ⟨x1, e1⟩ := d2f enc W sp f1 _ d1 p1 h1 w1; rw [e0s] at e1; have e1 : (cs.drop 1).take 32 = x1.cells := e1; have hcs : cs = ((cs.drop 0).take 1 ++ ((cs.drop 1).take 32 ++ [])) := a4u (cs := cs) (l := [1, 32]) (by rw [hl]; exact B9 _); rw [e0, e1] at hcs; exact ⟨⟨x0, x1⟩, hcs.trans (by first | rfl | (simp [Mark.cells]; done) | simp [Mark.cells, j3.cells])⟩
theorem g9n : Tryz.prog.underlying 38 = some (.slice 116) := by kernel_rfl
theorem g9o : Tryz.prog.bytesOf 116 = 40 := by kernel_rfl
theorem f6b : Tryz.prog.cellsOf 118 = 34 := by kernel_rfl
theorem g9p : fieldsOf Tryz.prog 118 [(3, 0), (33, 1), (3, 33)] = true := by kernel_rfl
theorem g3j : Opn Tryz.prog j3 118 := by
 intro H enc W sp fuel cs d ps hd hw
 obtain ⟨hl, ds, ha⟩ := a2b g9p hd hw
 rw [f6b] at hl
 match ds, ha with
 | [d0, d1, d2], ⟨⟨f0, p0, h0⟩, w0, ⟨⟨f1, p1, h1⟩, w1, ⟨⟨f2, p2, h2⟩, w2, _⟩⟩⟩ =>
  obtain ⟨x0, e0⟩ := a3w enc W sp f0 _ d0 p0 h0 w0; rw [ce3] at e0; have e0 : (cs.drop 0).take 1 = [.int .i64 x0] := e0; obtain ⟨x1, e1⟩ := d2f enc W sp f1 _ d1 p1 h1 w1; rw [e0s] at e1; have e1 : (cs.drop 1).take 32 = x1.cells := e1; obtain ⟨x2, e2⟩ := a3w enc W sp f2 _ d2 p2 h2 w2; rw [ce3] at e2; have e2 : (cs.drop 33).take 1 = [.int .i64 x2] := e2; have hcs : cs = ((cs.drop 0).take 1 ++ ((cs.drop 1).take 32 ++ ((cs.drop 33).take 1 ++ []))) := a4u (cs := cs) (l := [1, 32, 1]) (by rw [hl]; exact B9 _); rw [e0, e1, e2] at hcs; exact ⟨⟨x0, x1, x2⟩, hcs.trans (by first | rfl | (simp [j3.cells]; done) | simp [Mark.cells, j3.cells])⟩
theorem g9q : Tryz.prog.underlying 39 = some (.slice 118) := by kernel_rfl
theorem g9r : Tryz.prog.bytesOf 118 = 48 := by kernel_rfl
theorem h2o : Tryz.prog.cellsOf 38 = 1 := by kernel_rfl
theorem g9s : Tryz.prog.cellsOf 39 = 1 := by kernel_rfl
theorem f3x : Tryz.prog.cellsOf 41 = 6 := by kernel_rfl
theorem h2p : fieldsOf Tryz.prog 41 [(3, 0), (3, 1), (3, 2), (38, 3), (39, 4), (39, 5)] = true := by kernel_rfl
theorem g9t : Tryz.prog.underlying 42 = some (.slice 41) := by kernel_rfl
theorem h2q : Tryz.prog.bytesOf 41 = 96 := by kernel_rfl
theorem g9u : Tryz.prog.cellsOf 34 = 1 := by kernel_rfl
theorem f6c : Tryz.prog.cellsOf 169 = 34 := by kernel_rfl
theorem g9v : fieldsOf Tryz.prog 169 [(3, 0), (33, 1), (34, 33)] = true := by kernel_rfl
theorem g9w : Tryz.prog.underlying 43 = some (.slice 169) := by kernel_rfl
theorem g9x : Tryz.prog.bytesOf 169 = 64 := by kernel_rfl
theorem g9y : Tryz.prog.underlying 44 = some (.slice 33) := by kernel_rfl
theorem h2r : Tryz.prog.bytesOf 33 = 32 := by kernel_rfl
theorem h2s : Tryz.prog.cellsOf 42 = 1 := by kernel_rfl
theorem h2t : Tryz.prog.cellsOf 43 = 1 := by kernel_rfl
theorem h2u : Tryz.prog.cellsOf 44 = 1 := by kernel_rfl
theorem g9z : Tryz.prog.cellsOf 46 = 58 := by kernel_rfl
theorem h2v : fieldsOf Tryz.prog 46 [(3, 0), (3, 1), (3, 2), (3, 3), (3, 4), (3, 5), (33, 6), (34, 38), (37, 39), (3, 43), (3, 44), (41, 45), (42, 51), (43, 52), (3, 53), (3, 54), (44, 55), (35, 56), (22, 57)] = true := by kernel_rfl
theorem h0a : Tryz.prog.cellsOf 86 = 65 := by kernel_rfl
theorem h2w : fieldsOf Tryz.prog 86 [(3, 0), (46, 1), (41, 59)] = true := by kernel_rfl
theorem h2x : a5j Tryz.prog UInt8 5 fun _ => True := b5x h2l
theorem e9b : a5j Tryz.prog (List UInt8) 35 fun x => (x.length * 1 <= reachBytes /\ ∀ y0 ∈ x, True) := a3c g9e (by rw [ce5]; rfl) (by decide) be5 (by decide) h2x
theorem h2y : a5j Tryz.prog Int 3 fun _ => True := b5x a3w
theorem e9c : a5j Tryz.prog (List Int) 22 fun x => (x.length * 8 <= reachBytes /\ ∀ y0 ∈ x, True) := a3c f5y (by rw [ce3]; rfl) (by decide) be3 (by decide) h2y
theorem g3k : a5j Tryz.prog u9 211 fun x => e9a x := by
 intro H enc W sp fuel cs d ps hd hw
 obtain ⟨hl, ds, ha⟩ := a2b g9g hd hw
 rw [f5z] at hl
 match ds, ha with
 | [d0, d1, d2, d3, d4, d5, d6, d7, d8, d9], ⟨⟨f0, p0, h0⟩, w0, ⟨⟨f1, p1, h1⟩, w1, ⟨⟨f2, p2, h2⟩, w2, ⟨⟨f3, p3, h3⟩, w3, ⟨⟨f4, p4, h4⟩, w4, ⟨⟨f5, p5, h5⟩, w5, ⟨⟨f6, p6, h6⟩, w6, ⟨⟨f7, p7, h7⟩, w7, ⟨⟨f8, p8, h8⟩, w8, ⟨⟨f9, p9, h9⟩, w9, _⟩⟩⟩⟩⟩⟩⟩⟩⟩⟩ =>
  obtain ⟨x0, e0⟩ := a3w enc W sp f0 _ d0 p0 h0 w0; rw [ce3] at e0; have e0 : (cs.drop 0).take 1 = [.int .i64 x0] := e0; obtain ⟨x1, e1⟩ := a3w enc W sp f1 _ d1 p1 h1 w1; rw [ce3] at e1; have e1 : (cs.drop 1).take 1 = [.int .i64 x1] := e1; obtain ⟨x2, e2⟩ := a3w enc W sp f2 _ d2 p2 h2 w2; rw [ce3] at e2; have e2 : (cs.drop 2).take 1 = [.int .i64 x2] := e2; obtain ⟨x3, e3⟩ := a3w enc W sp f3 _ d3 p3 h3 w3; rw [ce3] at e3; have e3 : (cs.drop 3).take 1 = [.int .i64 x3] := e3; obtain ⟨x4, e4⟩ := a3w enc W sp f4 _ d4 p4 h4 w4; rw [ce3] at e4; have e4 : (cs.drop 4).take 1 = [.int .i64 x4] := e4; obtain ⟨x5, e5⟩ := a3w enc W sp f5 _ d5 p5 h5 w5; rw [ce3] at e5; have e5 : (cs.drop 5).take 1 = [.int .i64 x5] := e5; obtain ⟨x6, e6, b6⟩ := e9b enc W sp f6 _ d6 p6 h6 w6; rw [g3h] at e6; obtain ⟨v6, e6, s6⟩ := e6; have e6 : (cs.drop 6).take 1 = [v6] := e6; obtain ⟨x7, e7⟩ := a3w enc W sp f7 _ d7 p7 h7 w7; rw [ce3] at e7; have e7 : (cs.drop 7).take 1 = [.int .i64 x7] := e7; obtain ⟨x8, e8⟩ := a3w enc W sp f8 _ d8 p8 h8 w8; rw [ce3] at e8; have e8 : (cs.drop 8).take 1 = [.int .i64 x8] := e8; obtain ⟨x9, e9, b9⟩ := e9c enc W sp f9 _ d9 p9 h9 w9; rw [f3w] at e9; obtain ⟨v9, e9, s9⟩ := e9; have e9 : (cs.drop 9).take 1 = [v9] := e9; have hcs : cs = ((cs.drop 0).take 1 ++ ((cs.drop 1).take 1 ++ ((cs.drop 2).take 1 ++ ((cs.drop 3).take 1 ++ ((cs.drop 4).take 1 ++ ((cs.drop 5).take 1 ++ ((cs.drop 6).take 1 ++ ((cs.drop 7).take 1 ++ ((cs.drop 8).take 1 ++ ((cs.drop 9).take 1 ++ [])))))))))) := a4u (cs := cs) (l := [1, 1, 1, 1, 1, 1, 1, 1, 1, 1]) (by rw [hl]; exact B9 _); rw [e0, e1, e2, e3, e4, e5, e6, e7, e8, e9] at hcs; exact ⟨⟨x0, x1, x2, x3, x4, x5, x6, x7, x8, x9⟩, ⟨v6, v9, hcs.trans (by first | rfl | simp), s6, s9⟩, b6, b9⟩
theorem f6d : a5j Tryz.prog (List u9) 34 fun x => (x.length * 112 <= reachBytes /\ ∀ y0 ∈ x, e9a y0) := a3c g9h (by rw [f5z]; rfl) (by decide) g9i (by decide) g3k
theorem h0b : a5j Tryz.prog a0y 37 fun x => B37 x := by
 intro H enc W sp fuel cs d ps hd hw
 obtain ⟨hl, ds, ha⟩ := a2b h2n hd hw
 rw [g9l] at hl
 match ds, ha with
 | [d0, d1, d2, d3], ⟨⟨f0, p0, h0⟩, w0, ⟨⟨f1, p1, h1⟩, w1, ⟨⟨f2, p2, h2⟩, w2, ⟨⟨f3, p3, h3⟩, w3, _⟩⟩⟩⟩ =>
  obtain ⟨x0, e0⟩ := g9k enc W sp f0 _ d0 p0 h0 w0; rw [h2m] at e0; have e0 : (cs.drop 0).take 1 = [.int .i64 x0] := e0; obtain ⟨x1, e1, b1⟩ := e9b enc W sp f1 _ d1 p1 h1 w1; rw [g3h] at e1; obtain ⟨v1, e1, s1⟩ := e1; have e1 : (cs.drop 1).take 1 = [v1] := e1; obtain ⟨x2, e2⟩ := a3w enc W sp f2 _ d2 p2 h2 w2; rw [ce3] at e2; have e2 : (cs.drop 2).take 1 = [.int .i64 x2] := e2; obtain ⟨x3, e3, b3⟩ := e9c enc W sp f3 _ d3 p3 h3 w3; rw [f3w] at e3; obtain ⟨v3, e3, s3⟩ := e3; have e3 : (cs.drop 3).take 1 = [v3] := e3; have hcs : cs = ((cs.drop 0).take 1 ++ ((cs.drop 1).take 1 ++ ((cs.drop 2).take 1 ++ ((cs.drop 3).take 1 ++ [])))) := a4u (cs := cs) (l := [1, 1, 1, 1]) (by rw [hl]; exact B9 _); rw [e0, e1, e2, e3] at hcs; exact ⟨⟨x0, x1, x2, x3⟩, ⟨v1, v3, hcs.trans (by first | rfl | simp), s1, s3⟩, b1, b3⟩
theorem g3l : a5j Tryz.prog Mark 116 fun _ => True := b5x g3i
theorem h0c : a5j Tryz.prog (List Mark) 38 fun x => (x.length * 40 <= reachBytes /\ ∀ y0 ∈ x, True) := a3c g9n (by rw [f6a]; rfl) (by decide) g9o (by decide) g3l
theorem g3m : a5j Tryz.prog j3 118 fun _ => True := b5x g3j
theorem f6e : a5j Tryz.prog (List j3) 39 fun x => (x.length * 48 <= reachBytes /\ ∀ y0 ∈ x, True) := a3c g9q (by rw [f6b]; rfl) (by decide) g9r (by decide) g3m
theorem e9d : a5j Tryz.prog i4 41 fun x => B41 x := by
 intro H enc W sp fuel cs d ps hd hw
 obtain ⟨hl, ds, ha⟩ := a2b h2p hd hw
 rw [f3x] at hl
 match ds, ha with
 | [d0, d1, d2, d3, d4, d5], ⟨⟨f0, p0, h0⟩, w0, ⟨⟨f1, p1, h1⟩, w1, ⟨⟨f2, p2, h2⟩, w2, ⟨⟨f3, p3, h3⟩, w3, ⟨⟨f4, p4, h4⟩, w4, ⟨⟨f5, p5, h5⟩, w5, _⟩⟩⟩⟩⟩⟩ =>
  obtain ⟨x0, e0⟩ := a3w enc W sp f0 _ d0 p0 h0 w0; rw [ce3] at e0; have e0 : (cs.drop 0).take 1 = [.int .i64 x0] := e0; obtain ⟨x1, e1⟩ := a3w enc W sp f1 _ d1 p1 h1 w1; rw [ce3] at e1; have e1 : (cs.drop 1).take 1 = [.int .i64 x1] := e1; obtain ⟨x2, e2⟩ := a3w enc W sp f2 _ d2 p2 h2 w2; rw [ce3] at e2; have e2 : (cs.drop 2).take 1 = [.int .i64 x2] := e2; obtain ⟨x3, e3, b3⟩ := h0c enc W sp f3 _ d3 p3 h3 w3; rw [h2o] at e3; obtain ⟨v3, e3, s3⟩ := e3; have e3 : (cs.drop 3).take 1 = [v3] := e3; obtain ⟨x4, e4, b4⟩ := f6e enc W sp f4 _ d4 p4 h4 w4; rw [g9s] at e4; obtain ⟨v4, e4, s4⟩ := e4; have e4 : (cs.drop 4).take 1 = [v4] := e4; obtain ⟨x5, e5, b5⟩ := f6e enc W sp f5 _ d5 p5 h5 w5; rw [g9s] at e5; obtain ⟨v5, e5, s5⟩ := e5; have e5 : (cs.drop 5).take 1 = [v5] := e5; have hcs : cs = ((cs.drop 0).take 1 ++ ((cs.drop 1).take 1 ++ ((cs.drop 2).take 1 ++ ((cs.drop 3).take 1 ++ ((cs.drop 4).take 1 ++ ((cs.drop 5).take 1 ++ [])))))) := a4u (cs := cs) (l := [1, 1, 1, 1, 1, 1]) (by rw [hl]; exact B9 _); rw [e0, e1, e2, e3, e4, e5] at hcs; exact ⟨⟨x0, x1, x2, x3, x4, x5⟩, ⟨v3, v4, v5, hcs.trans (by first | rfl | simp), s3, s4, s5⟩, b3, b4, b5⟩
theorem h0d : a5j Tryz.prog (List i4) 42 fun x => (x.length * 96 <= reachBytes /\ ∀ y0 ∈ x, B41 y0) := a3c g9t (by rw [f3x]; rfl) (by decide) h2q (by decide) e9d
theorem g3n : a5j Tryz.prog a1b 169 fun x => g3f x := by
 intro H enc W sp fuel cs d ps hd hw
 obtain ⟨hl, ds, ha⟩ := a2b g9v hd hw
 rw [f6c] at hl
 match ds, ha with
 | [d0, d1, d2], ⟨⟨f0, p0, h0⟩, w0, ⟨⟨f1, p1, h1⟩, w1, ⟨⟨f2, p2, h2⟩, w2, _⟩⟩⟩ =>
  obtain ⟨x0, e0⟩ := a3w enc W sp f0 _ d0 p0 h0 w0; rw [ce3] at e0; have e0 : (cs.drop 0).take 1 = [.int .i64 x0] := e0; obtain ⟨x1, e1⟩ := d2f enc W sp f1 _ d1 p1 h1 w1; rw [e0s] at e1; have e1 : (cs.drop 1).take 32 = x1.cells := e1; obtain ⟨x2, e2, b2⟩ := f6d enc W sp f2 _ d2 p2 h2 w2; rw [g9u] at e2; obtain ⟨v2, e2, s2⟩ := e2; have e2 : (cs.drop 33).take 1 = [v2] := e2; have hcs : cs = ((cs.drop 0).take 1 ++ ((cs.drop 1).take 32 ++ ((cs.drop 33).take 1 ++ []))) := a4u (cs := cs) (l := [1, 32, 1]) (by rw [hl]; exact B9 _); rw [e0, e1, e2] at hcs; exact ⟨⟨x0, x1, x2⟩, ⟨v2, hcs.trans (by first | rfl | simp), s2⟩, b2⟩
theorem h0e : a5j Tryz.prog (List a1b) 43 fun x => (x.length * 64 <= reachBytes /\ ∀ y0 ∈ x, g3f y0) := a3c g9w (by rw [f6c]; rfl) (by decide) g9x (by decide) g3n
theorem h0f : a5j Tryz.prog Dig 33 fun _ => True := b5x d2f
theorem h0g : a5j Tryz.prog (List Dig) 44 fun x => (x.length * 32 <= reachBytes /\ ∀ y0 ∈ x, True) := a3c g9y (by rw [e0s]; rfl) (by decide) h2r (by decide) h0f
theorem h0h : a5j Tryz.prog i8 46 fun x => B46 x := by
 intro H enc W sp fuel cs d ps hd hw
 obtain ⟨hl, ds, ha⟩ := a2b h2v hd hw
 rw [g9z] at hl
 match ds, ha with
 | [d0, d1, d2, d3, d4, d5, d6, d7, d8, d9, d10, d11, d12, d13, d14, d15, d16, d17, d18], ⟨⟨f0, p0, h0⟩, w0, ⟨⟨f1, p1, h1⟩, w1, ⟨⟨f2, p2, h2⟩, w2, ⟨⟨f3, p3, h3⟩, w3, ⟨⟨f4, p4, h4⟩, w4, ⟨⟨f5, p5, h5⟩, w5, ⟨⟨f6, p6, h6⟩, w6, ⟨⟨f7, p7, h7⟩, w7, ⟨⟨f8, p8, h8⟩, w8, ⟨⟨f9, p9, h9⟩, w9, ⟨⟨f10, p10, h10⟩, w10, ⟨⟨f11, p11, h11⟩, w11, ⟨⟨f12, p12, h12⟩, w12, ⟨⟨f13, p13, h13⟩, w13, ⟨⟨f14, p14, h14⟩, w14, ⟨⟨f15, p15, h15⟩, w15, ⟨⟨f16, p16, h16⟩, w16, ⟨⟨f17, p17, h17⟩, w17, ⟨⟨f18, p18, h18⟩, w18, _⟩⟩⟩⟩⟩⟩⟩⟩⟩⟩⟩⟩⟩⟩⟩⟩⟩⟩⟩ =>
  obtain ⟨x0, e0⟩ := a3w enc W sp f0 _ d0 p0 h0 w0; rw [ce3] at e0; have e0 : (cs.drop 0).take 1 = [.int .i64 x0] := e0; obtain ⟨x1, e1⟩ := a3w enc W sp f1 _ d1 p1 h1 w1; rw [ce3] at e1; have e1 : (cs.drop 1).take 1 = [.int .i64 x1] := e1; obtain ⟨x2, e2⟩ := a3w enc W sp f2 _ d2 p2 h2 w2; rw [ce3] at e2; have e2 : (cs.drop 2).take 1 = [.int .i64 x2] := e2; obtain ⟨x3, e3⟩ := a3w enc W sp f3 _ d3 p3 h3 w3; rw [ce3] at e3; have e3 : (cs.drop 3).take 1 = [.int .i64 x3] := e3; obtain ⟨x4, e4⟩ := a3w enc W sp f4 _ d4 p4 h4 w4; rw [ce3] at e4; have e4 : (cs.drop 4).take 1 = [.int .i64 x4] := e4; obtain ⟨x5, e5⟩ := a3w enc W sp f5 _ d5 p5 h5 w5; rw [ce3] at e5; have e5 : (cs.drop 5).take 1 = [.int .i64 x5] := e5; obtain ⟨x6, e6⟩ := d2f enc W sp f6 _ d6 p6 h6 w6; rw [e0s] at e6; have e6 : (cs.drop 6).take 32 = x6.cells := e6; obtain ⟨x7, e7, b7⟩ := f6d enc W sp f7 _ d7 p7 h7 w7; rw [g9u] at e7; obtain ⟨v7, e7, s7⟩ := e7; have e7 : (cs.drop 38).take 1 = [v7] := e7; obtain ⟨x8, e8, b8⟩ := h0b enc W sp f8 _ d8 p8 h8 w8; rw [g9l] at e8; obtain ⟨v8_0, v8_1, e8, s8_0, s8_1⟩ := a0y.opIs e8; obtain ⟨x9, e9⟩ := a3w enc W sp f9 _ d9 p9 h9 w9; rw [ce3] at e9; have e9 : (cs.drop 43).take 1 = [.int .i64 x9] := e9; obtain ⟨x10, e10⟩ := a3w enc W sp f10 _ d10 p10 h10 w10; rw [ce3] at e10; have e10 : (cs.drop 44).take 1 = [.int .i64 x10] := e10; obtain ⟨x11, e11, b11⟩ := e9d enc W sp f11 _ d11 p11 h11 w11; rw [f3x] at e11; obtain ⟨v11_0, v11_1, v11_2, e11, s11_0, s11_1, s11_2⟩ := i4.opIs e11; obtain ⟨x12, e12, b12⟩ := h0d enc W sp f12 _ d12 p12 h12 w12; rw [h2s] at e12; obtain ⟨v12, e12, s12⟩ := e12; have e12 : (cs.drop 51).take 1 = [v12] := e12; obtain ⟨x13, e13, b13⟩ := h0e enc W sp f13 _ d13 p13 h13 w13; rw [h2t] at e13; obtain ⟨v13, e13, s13⟩ := e13; have e13 : (cs.drop 52).take 1 = [v13] := e13; obtain ⟨x14, e14⟩ := a3w enc W sp f14 _ d14 p14 h14 w14; rw [ce3] at e14; have e14 : (cs.drop 53).take 1 = [.int .i64 x14] := e14; obtain ⟨x15, e15⟩ := a3w enc W sp f15 _ d15 p15 h15 w15; rw [ce3] at e15; have e15 : (cs.drop 54).take 1 = [.int .i64 x15] := e15; obtain ⟨x16, e16, b16⟩ := h0g enc W sp f16 _ d16 p16 h16 w16; rw [h2u] at e16; obtain ⟨v16, e16, s16⟩ := e16; have e16 : (cs.drop 55).take 1 = [v16] := e16; obtain ⟨x17, e17, b17⟩ := e9b enc W sp f17 _ d17 p17 h17 w17; rw [g3h] at e17; obtain ⟨v17, e17, s17⟩ := e17; have e17 : (cs.drop 56).take 1 = [v17] := e17; obtain ⟨x18, e18, b18⟩ := e9c enc W sp f18 _ d18 p18 h18 w18; rw [f3w] at e18; obtain ⟨v18, e18, s18⟩ := e18; have e18 : (cs.drop 57).take 1 = [v18] := e18; have hcs : cs = ((cs.drop 0).take 1 ++ ((cs.drop 1).take 1 ++ ((cs.drop 2).take 1 ++ ((cs.drop 3).take 1 ++ ((cs.drop 4).take 1 ++ ((cs.drop 5).take 1 ++ ((cs.drop 6).take 32 ++ ((cs.drop 38).take 1 ++ ((cs.drop 39).take 4 ++ ((cs.drop 43).take 1 ++ ((cs.drop 44).take 1 ++ ((cs.drop 45).take 6 ++ ((cs.drop 51).take 1 ++ ((cs.drop 52).take 1 ++ ((cs.drop 53).take 1 ++ ((cs.drop 54).take 1 ++ ((cs.drop 55).take 1 ++ ((cs.drop 56).take 1 ++ ((cs.drop 57).take 1 ++ []))))))))))))))))))) := a4u (cs := cs) (l := [1, 1, 1, 1, 1, 1, 32, 1, 4, 1, 1, 6, 1, 1, 1, 1, 1, 1, 1]) (by rw [hl]; exact B9 _); rw [e0, e1, e2, e3, e4, e5, e6, e7, e8, e9, e10, e11, e12, e13, e14, e15, e16, e17, e18] at hcs; exact ⟨⟨x0, x1, x2, x3, x4, x5, x6, x7, x8, x9, x10, x11, x12, x13, x14, x15, x16, x17, x18⟩, ⟨v7, v8_0, v8_1, v11_0, v11_1, v11_2, v12, v13, v16, v17, v18, hcs.trans (by first | rfl | simp), s7, s8_0, s8_1, s11_0, s11_1, s11_2, s12, s13, s16, s17, s18⟩, b7, b8, b11, b12, b13, b16, b17, b18⟩
theorem h0i : a5j Tryz.prog Do 86 fun x => B86 x := by
 intro H enc W sp fuel cs d ps hd hw
 obtain ⟨hl, ds, ha⟩ := a2b h2w hd hw
 rw [h0a] at hl
 match ds, ha with
 | [d0, d1, d2], ⟨⟨f0, p0, h0⟩, w0, ⟨⟨f1, p1, h1⟩, w1, ⟨⟨f2, p2, h2⟩, w2, _⟩⟩⟩ =>
  obtain ⟨x0, e0⟩ := a3w enc W sp f0 _ d0 p0 h0 w0; rw [ce3] at e0; have e0 : (cs.drop 0).take 1 = [.int .i64 x0] := e0; obtain ⟨x1, e1, b1⟩ := h0h enc W sp f1 _ d1 p1 h1 w1; rw [g9z] at e1; obtain ⟨v1_0, v1_1, v1_2, v1_3, v1_4, v1_5, v1_6, v1_7, v1_8, v1_9, v1_10, e1, s1_0, s1_1, s1_2, s1_3, s1_4, s1_5, s1_6, s1_7, s1_8, s1_9, s1_10⟩ := i8.opIs e1; obtain ⟨x2, e2, b2⟩ := e9d enc W sp f2 _ d2 p2 h2 w2; rw [f3x] at e2; obtain ⟨v2_0, v2_1, v2_2, e2, s2_0, s2_1, s2_2⟩ := i4.opIs e2; have hcs : cs = ((cs.drop 0).take 1 ++ ((cs.drop 1).take 58 ++ ((cs.drop 59).take 6 ++ []))) := a4u (cs := cs) (l := [1, 58, 6]) (by rw [hl]; exact B9 _); rw [e0, e1, e2] at hcs; exact ⟨⟨x0, x1, x2⟩, ⟨v1_0, v1_1, v1_2, v1_3, v1_4, v1_5, v1_6, v1_7, v1_8, v1_9, v1_10, v2_0, v2_1, v2_2, hcs.trans (by first | rfl | simp), s1_0, s1_1, s1_2, s1_3, s1_4, s1_5, s1_6, s1_7, s1_8, s1_9, s1_10, s2_0, s2_1, s2_2⟩, b1, b2⟩
theorem f6f : Tryz.prog.underlying 74 = some (.slice 86) := by kernel_rfl
theorem h2z : Tryz.prog.bytesOf 86 = 520 := by kernel_rfl
theorem h0j : a5j Tryz.prog (List Do) 74 fun x => (x.length * 520 <= reachBytes /\ ∀ y0 ∈ x, B86 y0) := a3c f6f (by rw [h0a]; rfl) (by decide) h2z (by decide) h0i
theorem c3b {x : List Do} (h : (x.length * 520 <= reachBytes /\ ∀ y0 ∈ x, B86 y0)) : plD x := fun d hd => by
 have g := h.2 d hd
 have u : ∀ {n : Nat}, n <= reachBytes -> n <= i5 := fun h => D5 h (by decide)
 have v : ∀ {n : Nat}, n * 1 <= reachBytes -> n <= i5 := fun h => by rw [R2] at h; exact u h
 obtain ⟨⟨nb, ⟨ad, an⟩, ⟨cm, cp, cq⟩, ⟨cl, cs⟩, ⟨pl, ps⟩, ⟨dg, _⟩, ⟨dt, _⟩, ⟨nn, _⟩⟩, ⟨em, ep, eq⟩⟩ := g
 have hB : ∀ (l : List u9), (l.length * 112 <= reachBytes /\ ∀ y ∈ l, e9a y) -> bdB l := fun l h => ⟨u h.1, fun w hw => ⟨v (h.2 w hw).1.1, u (h.2 w hw).2.1⟩⟩
 exact ⟨⟨hB _ nb, v ad.1, u an.1, ⟨u cm.1, u cp.1, u cq.1⟩, u cl, fun c hc => ⟨u (cs c hc).1.1, u (cs c hc).2.1.1, u (cs c hc).2.2.1⟩, u pl, fun p hp => hB _ (ps p hp), u dg, v dt, u nn⟩, ⟨u em.1, u ep.1, u eq.1⟩⟩
theorem b8y (G : Gh) (w : World) (hH : Holds G w) (c0 : Array Value) (x0 : a0n) (s0 : Rp.Is G c0.toList x0) (c1 : Array Value) (x1 : (AV .i64 2)) (s1 : Rp.Is G c1.toList x1) (v2 : Value) (x2 : (List Do)) (s2 : Sl G v2 x2) (hb : plD x2) : Calls Tryz.prog 7 #[.agg c0, .agg c1, v2] w fun e w' => e = .returned (.bool true) /\ ∃ G', Cx w G G' w' :=
 Calls.mono (f3v (x0, x1, x2, ()) G w [.agg c0, .agg c1, v2] hH hb ⟨.agg c0, _, rfl, ⟨c0.toList, rfl, s0⟩, ⟨.agg c1, _, rfl, ⟨c1.toList, rfl, s1⟩, ⟨v2, _, rfl, s2, rfl⟩⟩⟩) (by
  rintro e w' ⟨v, G', he, hk, hR⟩; have hv : v = .bool true := hR; subst hv; exact ⟨he, G', hk⟩)
theorem h3b : Tryz.prog.cellsOf 72 = 2 := by kernel_rfl
theorem h3c : fieldsOf Tryz.prog 72 [(3, 0), (22, 1)] = true := by kernel_rfl
theorem h0k : Opn Tryz.prog a0n 72 := by
 intro H enc W sp fuel cs d ps hd hw
 obtain ⟨hl, ds, ha⟩ := a2b h3c hd hw
 rw [h3b] at hl
 match ds, ha with
 | [d0, d1], ⟨⟨f0, p0, h0⟩, w0, ⟨⟨f1, p1, h1⟩, w1, _⟩⟩ =>
  obtain ⟨x0, e0⟩ := a3w enc W sp f0 _ d0 p0 h0 w0; rw [ce3] at e0; have e0 : (cs.drop 0).take 1 = [.int .i64 x0] := e0; obtain ⟨x1, e1⟩ := g9f enc W sp f1 _ d1 p1 h1 w1; rw [f3w] at e1; obtain ⟨v1, e1, s1⟩ := e1; have e1 : (cs.drop 1).take 1 = [v1] := e1; have hcs : cs = ((cs.drop 0).take 1 ++ ((cs.drop 1).take 1 ++ [])) := a4u (cs := cs) (l := [1, 1]) (by rw [hl]; exact B9 _); rw [e0, e1] at hcs; exact ⟨⟨x0, x1⟩, v1, hcs.trans (by first | rfl | simp), s1⟩
theorem f6g : Tryz.prog.underlying 73 = some (.array 2 3) := by kernel_rfl
theorem h3d : Tryz.prog.cellsOf 73 = 2 := by kernel_rfl
theorem h0l : Opn Tryz.prog (AV .i64 2) 73 := by
 intro H enc W sp fuel cs d ps hd hw
 obtain ⟨xs, n, _, _, hl, hxl, hg⟩ := DataW.trod_array f6g hd
 rw [h3d] at hl
 have g0 := hg 0 (by decide)
 rw [B2 (by omega : 0 < xs.length)] at g0
 obtain ⟨x0, e0, _, _⟩ := DataW.trod_int g3g g0
 rw [ce3] at e0
 have e0 : (cs.drop 0).take 1 = [.int .i64 x0] := e0
 have g1 := hg 1 (by decide)
 rw [B2 (by omega : 1 < xs.length)] at g1
 obtain ⟨x1, e1, _, _⟩ := DataW.trod_int g3g g1
 rw [ce3] at e1
 have e1 : (cs.drop 1).take 1 = [.int .i64 x1] := e1
 have hcs : cs = ((cs.drop 0).take 1 ++ ((cs.drop 1).take 1 ++ [])) := a4u (cs := cs) (l := [1, 1]) (by rw [hl]; exact B9 _)
 rw [e0, e1] at hcs
 exact ⟨⟨[x0, x1]⟩, hcs.trans rfl, rfl⟩
theorem h3e : ownKnob Tryz.prog.godebug = none := by kernel_rfl
theorem e9e : laidOutB Tryz.prog = true := by kernel_rfl
theorem h0m : Tryz.prog.underlying 4 = some .bool := by kernel_rfl
set_option maxRecDepth 100000 in
theorem b3z (os : Os) (started : os.Started) (H : Type) (enc : TypeId × Value -> H) :
  ReturnsInHanded {} Tryz.checked os 7 .any (Rows.changePlaysSpec.pre6 enc Tryz.prog Tryz.f7 Rows.changePlaysRow.domain false) (Rows.changePlaysSpec.post enc Tryz.prog Tryz.f7 false true false false) := by
 refine returnsInHanded_of_change_sized (C := Tryz.checked) h3e started (by kernel_rfl) Tryz.func7
  (ChangeSpec.witness6 (enc := enc) (C := Tryz.checked) false ⟨#[], #[.agg #[.int .i64 0, .slice none 0 0], .agg #[.int .i64 0, .int .i64 0], .slice none 0 0], []⟩ 8 (by kernel_rfl) (by kernel_rfl) (by kernel_rfl) (by kernel_rfl)) ?_
 intro W base args ds gs before hval0 hW hcnd hsz0 _
 have hval : ∀ (j : Nat) t v, Tryz.f7.params[j]? = some t -> args[j]? = some v -> Value.okWide Tryz.prog W .any base t v := hval0
 have hsz : (DataW.weightsEach Tryz.prog (Tryz.f7.params.toList ++ Rows.changePlaysSpec.plain.varTypes Tryz.prog) (ds ++ gs)).all (· <= reachBytes) = true := hsz0
 have hW' := hW
 obtain ⟨p, q, hA0, hV, rfl, hfz, hnd⟩ := hW
 have hA : DataW.TrodAll enc Tryz.prog W 0 (fun _ => true) true Tryz.f7.params.toList args.toList ds p := hA0
 rw [Tryz.params7] at hA hval hsz
 obtain ⟨v0, vs0, d0, ds0, p0, q0, hargs, rfl, rfl, h0, r0⟩ := trodAll_cons hA
 obtain ⟨v1, vs1, d1, ds1, p1, q1, rfl, rfl, rfl, h1, r1⟩ := trodAll_cons r0
 obtain ⟨v2, vs2, d2, ds2, p2, q2, rfl, rfl, rfl, h2, r2⟩ := trodAll_cons r1
 obtain ⟨rfl, rfl, rfl⟩ := trodAll_nil r2
 obtain rfl : args = #[v0, v1, v2] := by cases args; simp_all
 obtain ⟨rfl, rfl⟩ := trodVars_none hV
 have k0 := h0
 have lt0 : ∀ x ∈ p0, x.block < W.heap.size := by obtain ⟨m, hm⟩ := k0; exact DataW.trod_lt m _ _ _ hm
 obtain ⟨fs0, hfs0⟩ : ∃ fs, Tryz.prog.underlying 72 = some (.struct fs) := d8z (by kernel_rfl)
 obtain ⟨cs0, rfl, _⟩ := okWide_struct hfs0 (hval 0 72 v0 rfl rfl)
 obtain ⟨x0, i0⟩ : ∃ x : a0n, Rp.Is (hG W) _ x := by
  obtain ⟨m, hm⟩ := h0; exact h0k enc W _ m _ d0 p0 hm (fun m hm => by have := J6.1 hsz m (DataW.weights_mem_each (j := 0) rfl rfl m hm); simpa using this)
 have k1 := h1
 have lt1 : ∀ x ∈ p1, x.block < W.heap.size := by obtain ⟨m, hm⟩ := k1; exact DataW.trod_lt m _ _ _ hm
 obtain ⟨cs1, rfl, _⟩ := d2k f6g (hval 1 73 v1 rfl rfl)
 obtain ⟨x1, i1⟩ : ∃ x : (AV .i64 2), Rp.Is (hG W) _ x := by
  obtain ⟨m, hm⟩ := h1; exact h0l enc W _ m _ d1 p1 hm (fun m hm => by have := J6.1 hsz m (DataW.weights_mem_each (j := 1) rfl rfl m hm); simpa using this)
 have k2 := h2
 have lt2 : ∀ x ∈ p2, x.block < W.heap.size := by obtain ⟨m, hm⟩ := k2; exact DataW.trod_lt m _ _ _ hm
 obtain ⟨A2, n2, c2, rfl⟩ := okWide_slice f6f (hval 2 74 v2 rfl rfl)
 obtain ⟨x2, i2, b2⟩ : ∃ x : (List Do), Rp.Is (hG W) _ x /\ (x.length * 520 <= reachBytes /\ ∀ y0 ∈ x, B86 y0) := by
  obtain ⟨m, hm⟩ := h2; exact h0j enc W _ m _ d2 p2 hm (fun m hm => by have := J6.1 hsz m (DataW.weights_mem_each (j := 2) rfl rfl m hm); simpa using this)
 obtain ⟨u2, hu2, s2⟩ := i2
 obtain rfl : Value.slice A2 n2 c2 = u2 := by simpa [Value.cells] using hu2
 clear hA0 hval0
 refine Calls.mono (b8y (hG W) W (e1a W) _ x0 i0 _ x1 i1 _ x2 s2 (c3b b2)) fun e W' ⟨he, G', hk⟩ => ?_
 subst he
 have bel := hk.below
 exact ⟨_, rfl, _, _, _, [], _, [], hW', trodAll_mk1 (shut_bool h0m _), (trodAll_cons_mk (Below.trod e9e (by kernel_rfl) (A6 (by kernel_rfl)) k0 bel lt0) (trodAll_cons_mk (Below.trod e9e (by kernel_rfl) (A6 (by kernel_rfl)) k1 bel lt1) (trodAll_cons_mk (Below.trod e9e (by kernel_rfl) (A6 (by kernel_rfl)) k2 bel lt2) trodAll_mk0))), rfl, bel.frame _, fun h => by cases h⟩
theorem a3s {a b : Bool} (h1 : a = true) (h2 : b = true) : (a && b) = true := by rw [h1, h2]; rfl
set_option maxHeartbeats 0 in
theorem b4a : joinedFacts Tryz.checked.prog 7 Tryz.f7 Rows.changePlaysSpec Rows.changePlaysRow = true := by
 unfold joinedFacts
 exact (a3s (a3s (a3s (a3s (a3s (a3s (a3s (a3s (a3s (a3s (a3s (a3s (a3s (a3s (a3s (a3s (a3s (a3s (a3s (a3s (a3s (a3s (a3s (a3s (a3s (a3s (a3s (a3s (a3s (a3s (a3s (by as_aux_lemma => kernel_rfl) (by as_aux_lemma => kernel_rfl)) (by as_aux_lemma => kernel_rfl)) (by as_aux_lemma => kernel_rfl)) (by as_aux_lemma => kernel_rfl)) (by as_aux_lemma => kernel_rfl)) (by as_aux_lemma => kernel_rfl)) (by as_aux_lemma => kernel_rfl)) (by as_aux_lemma => kernel_rfl)) (by as_aux_lemma => kernel_rfl)) (by as_aux_lemma => kernel_rfl)) (by as_aux_lemma => kernel_rfl)) (by as_aux_lemma => kernel_rfl)) (by as_aux_lemma => kernel_rfl)) (by as_aux_lemma => kernel_rfl)) (by as_aux_lemma => kernel_rfl)) (by as_aux_lemma => kernel_rfl)) (by as_aux_lemma => kernel_rfl)) (by as_aux_lemma => kernel_rfl)) (by as_aux_lemma => kernel_rfl)) (by as_aux_lemma => kernel_rfl)) (by as_aux_lemma => kernel_rfl)) (by as_aux_lemma => kernel_rfl)) (by as_aux_lemma => kernel_rfl)) (by as_aux_lemma => kernel_rfl)) (by as_aux_lemma => kernel_rfl)) (by as_aux_lemma => kernel_rfl)) (by as_aux_lemma => kernel_rfl)) (by as_aux_lemma => kernel_rfl)) (by as_aux_lemma => kernel_rfl)) (by as_aux_lemma => kernel_rfl)) (by as_aux_lemma => kernel_rfl))
theorem b5y : Tryz.checked.prog.funcNamed Rows.changePlaysRow.func = some 7 := by kernel_rfl
theorem b7j : Tryz.f7.isInstance Tryz.checked.prog Rows.changePlaysRow.origin Rows.changePlaysRow.targs := A6 (by kernel_rfl)
theorem b7k : Tryz.f7.isWrapper Tryz.checked.prog Rows.changePlaysRow.wrapper Rows.changePlaysRow.mainSum := by unfold Func.isWrapper; first | (rw [F8 (by decide +kernel)]; kernel_rfl) | (rw [F7 (by decide +kernel)]; exact ⟨rfl, rfl⟩)
theorem changePlays_holds : Rows.ChangePlaysSaid :=
 OpenClaim.holds_of_wide (p := Tryz.pinned) (s := Rows.changePlaysSpec) (c := Rows.changePlaysRow) 7 Tryz.f7 rfl rfl rfl rfl rfl rfl rfl ⟨rfl, rfl, rfl, rfl, rfl⟩ rfl rfl rfl rfl rfl b5y Tryz.func7 b4a b7j b7k
  (fun os started H enc _ => b3z os started H enc)
#print axioms changePlays_holds
end Go.Proofs.YtpbcabanpppfoaaGreat
