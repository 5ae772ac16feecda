/- CzRowN (changeNames_holds): the statement holds. No condition. -/
import Derived.Test.YtpbcabanpppfoaaGreatA15
set_option linter.all false
namespace Go.Proofs.YtpbcabanpppfoaaGreat
open Go Go.Gx Go.Vz
open Go.IntKind (wrap)
open List (flatMap getD length take replicate)
set_option maxRecDepth 100000
set_option maxHeartbeats 0
noncomputable section
abbrev xP (a : HL D e7p.ts) (i : KD × RD × Nat) : Do := a.2.2.1.getD (((i.2.2 : Nat) : Int) + 0).toNat (Ty.dflt D (.st 13))
abbrev nJ (n : KD × RD × Nat) : Int := ((n.2.2 : Nat) : Int) + 0
abbrev vJ (n : KD × RD × Nat) : Int := ((n.2.2 : Nat) : Int) + (-1 : Int)
abbrev cX (n : KD × RD × Nat) : b8 := (sd (kCh n.1) (nJ n)).change
abbrev dE : Prop := (some (false, ()) : Option (HL D [.bool])) = some (true, ())
def g6q {C : a0c} {me : Int} (h : (bif (u9.ret (C, ())).1 != 0 then true else !(a7q.ret (C, me, ())).1) = false) : C.nodes.length <= 7 := by
 have h : (bif a0j C != (0 : Int) then true else !b5w C me) = false := h
 cases hc : a0j C != 0 with
 | true => rw [hc] at h; cases h
 | false => exact (a1k (by simpa using hc)).1
def f2e : e7p.ok Tp 7 := Con.proveH (c := e7p) EF Zpl (H := fun _ => plH) (call := fun _ => c7u plH 6) (fun _ => b6g plH 6) fun (a : HL D e7p.ts) (hp : plD a.2.2.1) =>
 brL fun _ : a.1.nodes.length <= d4 =>
 And.intro (bq (decide (0 < ((a.1.nodes.length : Nat) : Int))) (fun h2 =>
 brL fun _ : a.1.nodes.length <= d4 =>
 nM (a2r.ret (a.2.1.l.getD (0 : Int).toNat (0 : Int), min ((a.1.nodes.length : Nat) : Int) (4 : Int), ())) (fun q4 h4 =>
 bN (iX q4.1 ((a.1.nodes.length : Nat) : Int)) (plI (by have := A6 h2; omega) h4) (
 (⟨a.1.nodes.getD q4.1.toNat (Ty.dflt D .int), rfl, rfl, rfl, trivial⟩ : Ent g0z [SV.i .i64 (a.1.nodes.getD q4.1.toNat (Ty.dflt D .int))] [] [])))) (fun _ =>
 (⟨(0 : Int), rfl, rfl, rfl, trivial⟩ : Ent g0z [SV.i .i64 0] [] []))) (
 fun (me : Int) (_ : True) =>
 nM (c2h.post () ()) (fun q3 _ =>
 bq (bif (u9.ret (a.1, ())).1 != 0 then true else !(a7q.ret (a.1, me, ())).1) (fun h4 =>
 bq (bif (a2c.ret (a.1, ())).1 != 0 then true else !(x0.ret (a.1, me, ())).1) (fun h5 => brL fun _ : a.2.2.1.length <= d4 =>
 pQ ((bif bif decide (0 < ((a.2.2.1.length : Nat) : Int)) then decide ((0 : Int) < 60) else false then (110 : Int) == 0 else false) = false) (by cases (bif decide (0 < ((a.2.2.1.length : Nat) : Int)) then decide ((0 : Int) < 60) else false) <;> rfl) (rfl : some (true, ()) = some (true, ()))) (fun h5 =>
 bq (bif bif bif decide ((a.2.1.l.getD (1 : Int).toNat (0 : Int)) < (0 : Int)) then true else decide (2 < (a.2.1.l.getD (1 : Int).toNat (0 : Int))) then true else decide ((1 : Int) < 0) then true else decide ((1048576 : Int) < 1)) (fun _ => (absurd h4 (by rw [<- plE, h5]; exact J3) : dE)) (fun _ => pQ (a.1.nodes.length * 8 <= d4) (absurd h4 (by rw [<- plE, h5]; exact J3)) (absurd h4 (by rw [<- plE, h5]; exact J3) : dE)))) (fun h4 =>
 bq (bif bif bif decide ((a.2.1.l.getD (1 : Int).toNat (0 : Int)) < (0 : Int)) then true else decide (2 < (a.2.1.l.getD (1 : Int).toNat (0 : Int))) then true else decide ((1 : Int) < 0) then true else decide ((1048576 : Int) < 1)) (fun h5 =>
 bq (bif (a2c.ret (a.1, ())).1 != 0 then true else !(x0.ret (a.1, me, ())).1) (fun h6 => (absurd h6 (by rw [plE, h4]; exact J3) : dE)) (fun _ =>
 bq (bif bif bif decide ((a.2.1.l.getD (1 : Int).toNat (0 : Int)) < (0 : Int)) then true else decide (2 < (a.2.1.l.getD (1 : Int).toNat (0 : Int))) then true else decide ((1 : Int) < 0) then true else decide ((1048576 : Int) < 1)) (fun _ => brL fun _ : a.2.2.1.length <= d4 =>
 pQ ((bif bif decide (0 < ((a.2.2.1.length : Nat) : Int)) then decide ((0 : Int) < 60) else false then (2 : Int) == 0 else false) = false) (by cases (bif decide (0 < ((a.2.2.1.length : Nat) : Int)) then decide ((0 : Int) < 60) else false) <;> rfl) (rfl : some (true, ()) = some (true, ()))) (fun h7 => pQ (a.1.nodes.length * 8 <= d4) (absurd h5 (by rw [h7]; exact J3)) (absurd h5 (by rw [h7]; exact J3) : dE)))) (fun h5 =>
 pQ (a.1.nodes.length <= 1000000) (D5 (g6q h4) (by decide)) (
 bq (bif (a2c.ret (a.1, ())).1 != 0 then true else !(x0.ret (a.1, me, ())).1) (fun h6 => (absurd h6 (by rw [plE, h4]; exact J3) : dE)) (fun _ =>
 bq (bif bif bif decide ((a.2.1.l.getD (1 : Int).toNat (0 : Int)) < (0 : Int)) then true else decide (2 < (a.2.1.l.getD (1 : Int).toNat (0 : Int))) then true else decide ((1 : Int) < 0) then true else decide ((1048576 : Int) < 1)) (fun h7 => (absurd h7 (by rw [h5]; exact J3) : dE)) (fun _ =>
 pQ (a.1.nodes.length * 8 <= d4) (D5 (M4 8 (g6q h4)) (by decide)) (
 And.intro (⟨((((a.1, me, (a.2.1.l.getD (1 : Int).toNat (0 : Int)), 1, ()), (q3.2.1.1, ()), [], [], q3.2.2.1, q3.2.2.2.1, ()) : KD), (((a.1, me, (a.2.1.l.getD (1 : Int).toNat (0 : Int)), 1, [], [], ()), ((0 : Int), ()), [], ()) : RD), (0 : Nat)), rfl, rfl, rfl, ⟨C0 _, SX.new h4⟩⟩ : Ent (c7v 13 0 60 0 1000) [SV.i .i64 0] [HB.arr (.sl .u8) 35 []] (plC ((a.1, me, (a.2.1.l.getD (1 : Int).toNat (0 : Int)), 1, ()), (q3.2.1.1, ()), [], [], q3.2.2.1, q3.2.2.2.1, ()) ((a.1, me, (a.2.1.l.getD (1 : Int).toNat (0 : Int)), 1, [], [], ()), ((0 : Int), ()), [], ()))) (
 fun (i : KD × RD × Nat) (hI : i.2.2 <= 60 /\ SX (0 + 1000 * i.2.2) i.1 i.2.1) =>
 have hi60 := hI.1
 brL fun _ : a.2.2.1.length <= d4 =>
 bq (bif bif decide (((i.2.2 : Nat) : Int) + 0 < ((a.2.2.1.length : Nat) : Int)) then decide (((i.2.2 : Nat) : Int) + 0 < (60 : Int)) else false then (0 : Int) == 0 else false) (fun h10 =>
 have hx := plX h10
 have hd : bdN (xP a i).note /\ bdC (xP a i).change := hp _ (a3i (by omega))
 have TELLS := fun (d : Nat) (k : KD) (r : RD) (S : SX (0 + 1000 * i.2.2 + 1) k r) =>
 bN (iX (((i.2.2 : Nat) : Int) + 0) ((a.2.2.1.length : Nat) : Int)) (plJ hx.1) (
 pQ (okK k) S.ok (
 nM ((b4w.post () k).1) (fun q1 hq1 =>
 pQ (okQ r) (S.q (by omega)) (
 nM ((b4s.post () r).1) (fun q2 hq2 =>
 have E2 : q1 = q2 := by rw [<- hq1, <- hq2]; exact S.own
 bq (q1.2.1 != q2.2.1) (fun h => ((plN (by rw [E2]) h).elim : dE)) (fun _ =>
 bq (!(a3r.ret (q1.1, q2.1, ())).1) (fun h => ((g1a (by rw [E2]) h).elim : dE)) (fun _ =>
 pQ (okK k) S.ok (
 nM ((c1r.post () k).1) (fun q3 hq3 =>
 pQ (okV r) (S.v (by omega)) (
 nM (b7f.post () r) (fun q4 hq4 =>
 have R : q3.1 = q4.1.1 /\ SX (0 + 1000 * i.2.2 + 1 + 7) k q4.2 := by rw [<- hq3, <- hq4]; exact S.retell
 bq (!(a9b.ret (q3.1, q4.1.1, ())).1) (fun h => ((g8n R.1 h).elim : dE)) (fun _ =>
 pQ (okK k) S.ok (
 nM (a4h.post ((xP a i).change, ()) k) (fun q5 hq5 =>
 pQ (okV q4.2) (R.2.v (by omega)) (
 nM (a4v.post ((xP a i).change, ()) q4.2) (fun q6 hq6 =>
 have V : q5.1 = q6.1 /\ SX (0 + 1000 * i.2.2 + 1 + 7 + 7) q5.2 q6.2 := by rw [<- hq5, <- hq6]; exact R.2.vouched _
 have b9 := V.2.bd
 bq (q5.1.1 != q6.1.1) (fun h => ((plN (by rw [V.1]) h).elim : dE)) (fun _ =>
 And.intro (⟨(q5.2, q6.2, (0 : Nat)), rfl, rfl, rfl, ⟨C0 _, V.2.ex⟩⟩ : Ent (c7v 9 (-1) 8 (rBk q6.2).length 60) [SV.i .i64 (-1 : Int)] [HB.arr (.sl .u8) 35 (rBk q6.2)] (plC q5.2 q6.2)) (
 fun (j : KD × RD × Nat) (hJ : j.2.2 <= 8 /\ SX ((rBk q6.2).length + 60 * j.2.2) j.1 j.2.1) =>
 have SJ := hJ.2
 have hj8 := hJ.1
 have b14 := SJ.bd
 bq (decide ((vJ j) < (7 : Int))) (fun h =>
 have hj : j.2.2 + 1 <= 8 := by have : ((j.2.2 : Nat) : Int) + (-1 : Int) < 7 := A6 h; omega
 pQ (okK j.1) SJ.ok (
 nM ((b2r.post ((vJ j), ()) j.1).1) (fun q7 hq7 =>
 pQ (okQ j.2.1) (SJ.q (by omega)) (
 nM ((b4t.post ((vJ j), ()) j.2.1).1) (fun q8 hq8 =>
 have E8 : q7 = q8 := by rw [<- hq7, <- hq8]; exact SJ.join (vJ j)
 bq (q7.1 != q8.1) (fun h => ((plN (by rw [E8]) h).elim : dE)) (fun _ =>
 bq (q7.2.1 != q8.2.1) (fun h => ((plN (by rw [E8]) h).elim : dE)) (fun _ =>
 pQ (okK j.1) SJ.ok (
 nM ((b4e.post ((vJ j), ()) j.1).1) (fun q9 hq9 =>
 pQ (okQ j.2.1) (SJ.q (by omega)) (
 nM ((b7d.post ((vJ j), ()) j.2.1).1) (fun q10 hq10 =>
 have E10 : q9 = q10 := by rw [<- hq9, <- hq10]; exact SJ.behind (vJ j)
 bq (q9.1 != q10.1) (fun h => ((plN (by rw [E10]) h).elim : dE)) (fun _ =>
 pQ (okK j.1) SJ.ok (
 nM ((b2a.post ((vJ j), ()) j.1).1) (fun q11 hq11 =>
 pQ (okV j.2.1) (SJ.v (by omega)) (
 nM (b4u.post ((vJ j), ()) j.2.1) (fun q12 hq12 =>
 have R : q11.1 = q12.1.1 /\ SX ((rBk q6.2).length + 60 * j.2.2 + 49) j.1 q12.2 := by rw [<- hq11, <- hq12]; exact SJ.ready (vJ j)
 bq (!(b4j.ret (q11.1, q12.1.1, ())).1) (fun h => ((g8o R.1 h).elim : dE)) (fun _ =>
 (⟨(j.1, q12.2, j.2.2 + 1), by
  show [SV.i .i64 (wrap .i64 ((vJ j) + 1))] = [iv (((j.2.2 + 1 : Nat) : Int) + (-1))]; rw [plW (by omega) (by decide) (by decide)], rfl, rfl, ⟨hj, (show SX ((rBk q6.2).length + 60 * (j.2.2 + 1)) j.1 q12.2 from R.2.up (by omega))⟩, by show 8 - (j.2.2 + 1) < 8 - j.2.2; omega⟩ : Rnd (c7v 9 (-1) 8 (rBk q6.2).length 60) j [SV.i .i64 (wrap .i64 ((vJ j) + (1 : Int)))] [HB.arr (.sl .u8) 35 (rBk q12.2)] (plC j.1 q12.2))))))))))))))))))) (fun _ =>
 And.intro (⟨(j.1, j.2.1, (0 : Nat)), rfl, rfl, rfl, ⟨C0 _, SJ.ey⟩⟩ : Ent (c7v 14 0 30 (rBk j.2.1).length 10) [SV.i .i64 0] [HB.arr (.sl .u8) 35 (rBk j.2.1)] (plC j.1 j.2.1)) (
 fun (n : KD × RD × Nat) (hN : n.2.2 <= 30 /\ SX ((rBk j.2.1).length + 10 * n.2.2) n.1 n.2.1) =>
 have SN := hN.2
 have hn30 := hN.1
 bq (decide ((nJ n) < (30 : Int))) (fun h =>
 have hn : n.2.2 + 1 <= 30 := by have : ((n.2.2 : Nat) : Int) + 0 < 30 := A6 h; omega
 And.intro ((SN.len (nJ n)).1 : (cX n).mz.length <= 1000000) (
 And.intro ((SN.len (nJ n)).2.1 : (cX n).p.length <= 1000000) (
 And.intro ((SN.len (nJ n)).2.2 : (cX n).q.length <= 1000000) (
 pQ (okQ n.2.1) (SN.q (by omega)) (
 nM ((b2e.post ((nJ n), ()) n.2.1).1) (fun q13 hq13 =>
 have E13 : (cX n) = q13.1 /\ (sdO (kCh n.1) (nJ n)).isSome = q13.2.1 := by rw [<- hq13]; exact SN.of (nJ n)
 bq ((sdO (kCh n.1) (nJ n)).isSome != q13.2.1) (fun h => ((plN E13.2 h).elim : dE)) (fun _ =>
 bq (!(a3r.ret ((cX n), q13.1, ())).1) (fun h => ((g1a E13.1 h).elim : dE)) (fun _ =>
 have TAIL := fun (kk : KD) (rr : RD) (SS : SX ((rBk j.2.1).length + 10 * (n.2.2 + 1)) kk rr) =>
 And.intro (⟨((cX n), (0 : Nat)), rfl, rfl, rfl, ⟨C0 _, (SN.len (nJ n)).1⟩⟩ : Ent (e7o d) [SV.i .i64 0] [HB.arr (.st 1) 116 (cX n).mz, HB.arr (.st 2) 118 (cX n).p, HB.arr (.st 2) 118 (cX n).q] [HB.box 41 [iv (cX n).node, iv (cX n).view, iv (cX n).low, .own 0, .own 1, .own 2]]) (
 fun (m : b8 × Nat) (hM : m.2 <= m.1.mz.length /\ m.1.mz.length <= 1000000) =>
 bq (decide ((m.2 : Int) < (m.1.mz.length : Nat))) (fun h =>
 bN (iX (m.2 : Int) ((m.1.mz.length : Nat) : Int)) (ltD h) (
 (⟨({ m.1 with mz := m.1.mz.set (m.2 : Int).toNat ⟨-1, (m.1.mz.getD (m.2 : Int).toNat (Ty.dflt D (.st 1))).dig⟩ }, m.2 + 1), by
  show [SV.i .i64 (wrap .i64 ((m.2 : Int) + 1))] = [iv ((m.2 + 1 : Nat) : Int)]; rw [wr1 (D5 hM.1 hM.2)], rfl, rfl, by
  have e : (m.1.mz.set (m.2 : Int).toNat ⟨-1, (m.1.mz.getD (m.2 : Int).toNat (Ty.dflt D (.st 1))).dig⟩).length = m.1.mz.length := P1; show m.2 + 1 <= (m.1.mz.set _ _).length /\ (m.1.mz.set _ _).length <= 1000000; rw [e]; exact ⟨e9 h, hM.2⟩, by
  show (m.1.mz.set _ _).length - (m.2 + 1) < m.1.mz.length - m.2; rw [P1]; exact a2a h⟩ : Rnd (e7o d) m [SV.i .i64 (wrap .i64 ((m.2 : Int) + 1))] [HB.arr (.st 1) 116 (m.1.mz.set (m.2 : Int).toNat ⟨-1, (m.1.mz.getD (m.2 : Int).toNat (Ty.dflt D (.st 1))).dig⟩), HB.arr (.st 2) 118 m.1.p, HB.arr (.st 2) 118 m.1.q] [HB.box 41 [iv m.1.node, iv m.1.view, iv m.1.low, .own 0, .own 1, .own 2]]))) (fun _ =>
 (⟨(kk, rr, n.2.2 + 1), by
  show [SV.i .i64 (wrap .i64 ((nJ n) + 1))] = [iv (((n.2.2 + 1 : Nat) : Int) + 0)]; rw [plW (by omega) (by decide) (by decide)], rfl, rfl, ⟨hn, SS⟩, by show 30 - (n.2.2 + 1) < 30 - n.2.2; omega⟩ : Rnd (c7v 14 0 30 (rBk j.2.1).length 10) n [SV.i .i64 (wrap .i64 ((nJ n) + (1 : Int)))] [HB.arr (.sl .u8) 35 (rBk rr)] (plC kk rr))))
 bq ((sdO (kCh n.1) (nJ n)).isSome) (fun hs =>
 have M := SN.may hs
 pQ ((!(a7q.ret (kCr n.1, (cX n).node, ())).1) = false) (by show (!b5w (kCr n.1) (cX n).node) = false; rw [M.2.2, M.1]; rfl) (
 And.intro (M.2.1 : j8 (cX n) = true) (
 pQ ((d9 (cX n)).length <= 65536) (g8p M.2.1) (
 And.intro ((SN.len (nJ n)).1 : (cX n).mz.length <= 1000000) (
 And.intro ((SN.len (nJ n)).2.1 : (cX n).p.length <= 1000000) (
 And.intro ((SN.len (nJ n)).2.2 : (cX n).q.length <= 1000000) (
 bq ((sdO (kCh n.1) (cX n).node).isSome) (fun _ =>
 pQ ((sd (kCh n.1) (cX n).node).change = (cX n)) (by rw [M.2.2]) (
 pQ (okV n.2.1) (SN.v (by omega)) (
 nM (a4v.post (q13.1, ()) n.2.1) (fun q14 hq14 =>
 have V : q14.1 = (true, ()) /\ SX ((rBk j.2.1).length + 10 * n.2.2 + 7) (a1m n.1 (d9 (cX n))) q14.2 := by rw [<- hq14]; exact SN.vow hs E13.1
 bq (true != q14.1.1) (fun h => ((plN (by rw [V.1]) h).elim : dE)) (fun _ =>
 TAIL (a1m n.1 (d9 (cX n))) q14.2 (V.2.up (by omega))))))) (fun ht =>
 pQ (okK (a1m n.1 (d9 (cX n)))) (SN.ink _).ok (
 nM ((b6u.post (dgS (cX n), (0 : Int), ()) (a1m n.1 (d9 (cX n)))).1) (fun q14 hq14 =>
 pQ (okV n.2.1) (SN.v (by omega)) (
 nM (a4v.post (q13.1, ()) n.2.1) (fun q15 hq15 =>
 have V : q15.1 = (true, ()) /\ SX ((rBk j.2.1).length + 10 * n.2.2 + 7) (a1m n.1 (d9 (cX n))) q15.2 := by rw [<- hq15]; exact SN.vow hs E13.1
 bq (decide ((a7c.ret (kCr n.1, ())).1 <= q14.1) != q15.1.1) (fun _ => (absurd hs (by rw [M.2.2] at ht; rw [ht]; exact J3) : dE)) (fun _ => TAIL (a1m n.1 (d9 (cX n))) q15.2 (V.2.up (by omega))))))))))))))) (fun _ => TAIL n.1 n.2.1 (SN.up (by omega))))))))))) (fun _ =>
 (⟨(n.1, n.2.1, i.2.2 + 1), by
  show [SV.i .i64 (wrap .i64 (((i.2.2 : Nat) : Int) + 0 + 1))] = [iv (((i.2.2 + 1 : Nat) : Int) + 0)]; rw [plW (by omega) (by decide) (by decide)], rfl, rfl, ⟨hx.2, (show SX (0 + 1000 * (i.2.2 + 1)) n.1 n.2.1 from SN.up (by omega))⟩, by show 60 - (i.2.2 + 1) < 60 - i.2.2; omega⟩ : Rnd (c7v 13 0 60 0 1000) i [SV.i .i64 (wrap .i64 (((i.2.2 : Nat) : Int) + 0 + (1 : Int)))] [HB.arr (.sl .u8) 35 (rBk n.2.1)] (plC n.1 n.2.1)))))))))))))))))))))))
 bN (iX (((i.2.2 : Nat) : Int) + 0) ((a.2.2.1.length : Nat) : Int)) (plJ hx.1) (
 nM (a2r.ret ((xP a i).kind, (2 : Int), ())) (fun q11 _ =>
 bq (q11.1 == 1) (fun _ =>
 pQ (bdC (xP a i).change) hd.2 (
 nM (a4u.post ((xP a i).change, ()) i.1) (fun q12 hq12 =>
 pQ (okQ i.2.1) (hI.2.q (by omega)) (
 nM (b0n.post ((xP a i).change, ()) i.2.1) (fun q13 hq13 =>
 have V : q12.1 = q13.1 /\ SX (0 + 1000 * i.2.2 + 1) q12.2 q13.2 := by rw [<- hq12, <- hq13]; exact hI.2.leave _
 bq (bif q12.1.2.1 == q13.1.2.1 then (a9b.ret (q12.1.1, q13.1.1, ())).1 else false) (fun _ =>
 bq (!(a3r.ret ((xP a i).change, (xP a i).change, ())).1) (fun h => ((g1a rfl h).elim : dE)) (fun _ => TELLS 93 q12.2 q13.2 V.2)) (fun h => ((plL V.1 h).elim : dE))))))) (fun _ =>
 pQ (bdN (xP a i).note) hd.1 (
 nM (c1l.ret ((xP a i).note, (xP a i).change, ())) (fun q12 hq12 =>
 pQ (bdN q12.1) (by rw [<- hq12]; exact f2d hd.1) (
 nM (a0s.post (q12.1, ()) i.1) (fun q13 hq13 =>
 pQ (okQ i.2.1) (hI.2.q (by omega)) (
 nM (a2k.post (q12.1, ()) i.2.1) (fun q14 hq14 =>
 have V : q13.1 = q14.1 /\ SX (0 + 1000 * i.2.2 + 1) q13.2 q14.2 := by rw [<- hq13, <- hq14]; exact hI.2.take _
 bq (!bif bif q13.1.2.1 == q14.1.2.1 then (a9b.ret (q13.1.1, q14.1.1, ())).1 else false then (c0n.ret (q12.1, q12.1, ())).1 else false) (fun h => ((plT V.1 h).elim : dE)) (fun _ =>
 TELLS 95 q13.2 q14.2 V.2))))))))))) (fun _ => (rfl : some (true, ()) = some (true, ()))))))))))))
end
end Go.Proofs.YtpbcabanpppfoaaGreat
namespace Go.Proofs.YtpbcabanpppfoaaGreat
open Go Go.Gx Go.Vz
open Go.IntKind (wrap)
open List (flatMap getD length take replicate)
set_option maxRecDepth 100000
noncomputable section
abbrev Γ8n : Nat -> Option (Con D) := i5 (i5 (i5 (i5 (i5 (i5 (i5 Γpi 37 d3m) 78 b4i) 34 d5w) 14 b2p) 13 a8h) 35 c4e) 7 e7p
def K8n : n3 EF Tp Γ8n noO := ((((((Kpi.c f3y).c c6j).c d2u).c d5h).c c9l).c e5k).c f2e
def Z8n : ZF Tp D := (Z0.side K8n).skip
def d3u (H : Nat -> Nat -> Option (Hint D)) : Nat -> j7 D
 | 0 => noH
 | n + 1 => b1o EF Γ8n (inH EF Z8n H (d3u H n))
def c4q (H : Nat -> Nat -> Option (Hint D)) : ∀ n, j5 Tp (d3u H n)
 | 0 => a7a
 | n + 1 => a2q EF K8n.g (a2l EF Z8n (c4q H n))
def h8n : Nat -> Nat -> Option (Hint D) := fun f r => match f, r with
 | 8, 3 => some (.unr 3)
 | 36, 6 => some (.unr 2)
 | _, _ => none
abbrev cn0 : b8 := ⟨0, 0, 0, [], [], []⟩
abbrev cn3 : b8 := { m6 3 2 3 with mz := [] }
def cnD (n : d7) : Do := ⟨0, n, cn0⟩
def cnA (x : Int) (c : b8) : Do := ⟨0, a5y x c, c⟩
def cnS (c : b8) : Do := ⟨1, ⟨0, 0, 0, 0, 0, 0, Dig.zero, [], ⟨0, [], 0, []⟩, 0, 0, cn0, [], [], 0, 0, [], [], []⟩, c⟩
def cnL : List Do := [cnD (a0k (m6 1 2 1)), cnD (a0k (m6 1 2 1)), cnD (a0k (m6 1 2 7)), cnD (a0k (m6 1 1 1)), cnD (a0k (m6 2 2 1)), cnD (a0k (m6 9 2 1)), cnD (a0k cn3), cnD { a0k (m6 3 2 3) with epoch := 2 },
 cnA 3 (m6 1 2 1), cnA 3 (m6 1 2 7), cnD (a5y 3 (m6 1 1 1)), cnD (a5y 4 (m6 9 2 1)), cnA 4 (m6 1 2 1), cnS (m6 1 2 1), cnS (m6 2 2 1), cnS (m6 2 2 9), cnS cn3, cnS (m6 2 4 9), cnD (a5y 3 (m6 2 2 2)),
 cnD (a0k (m6 3 4 3)), cnD (a0k (m6 4 6 4)), cnA 1 (m6 3 4 3), cnD ⟨3, 1, 1, 1, 0, 1, Dig.zero, [], ⟨0, [], 0, []⟩, 0, 0, cn0, [], [], 0, 0, [], [], []⟩, cnA 1 (m6 4 3 5), cnA 3 (m6 4 3 5)]
def ckC (c : b8) : Bool := Nat.ble c.mz.length 9 && (Nat.ble c.p.length 9 && Nat.ble c.q.length 9)
def ckN (n : d7) : Bool := n.batch.isEmpty && (n.answer.data.isEmpty && (n.answer.nodes.isEmpty && (ckC n.change && (n.changes.isEmpty && (n.picks.isEmpty && (n.digests.isEmpty && (n.data.isEmpty && n.nodes.isEmpty)))))))
def e7q {c : b8} (h : ckC c = true) : bdC c := by
 simp only [ckC, A7] at h
 have h1 := C2 h.1
 have h2 := C2 h.2.1
 have h3 := C2 h.2.2
 exact ⟨by unfold d4; omega, by unfold d4; omega, by unfold d4; omega⟩
def g1b {n : d7} (h : ckN n = true) : bdN n := by
 simp only [ckN, A7, List.isEmpty_iff] at h
 obtain ⟨h1, h2, h3, h4, h5, h6, h7, h8, h9⟩ := h
 have z : ∀ {α : Type} {l : List α} (k : Nat), l = [] -> l.length * k <= d4 := fun k h => by rw [h]; simp
 have y : ∀ {α : Type} {l : List α}, l = [] -> l.length <= d4 := fun h => by rw [h]; simp
 exact ⟨⟨z _ h1, by rw [h1]; simp⟩, y h2, z _ h3, e7q h4, z _ h5, by rw [h5]; simp, z _ h6, by rw [h6]; simp, z _ h7, y h8, z _ h9⟩
def g1c : plD cnL := fun d hd => by
 have h : (cnL.all fun d => ckN d.note && ckC d.change) = true := by kernel_rfl
 have := J6.1 h d hd
 rw [A7] at this
 exact ⟨g1b this.1, e7q this.2⟩
def cnW (n v : Int) (b : UInt8) (h : 1 <= n /\ n <= 28 /\ 1 <= v /\ v <= 255) : isW (m6 n v b) := ⟨(n, v, b), rfl, h⟩
def c8n : Con D := { ts := [], rt := [.bool], ret := fun _ => (true, ()) }
def g1d : c8n.ok Tp 8 := Con.proveH (c := c8n) EF Z8n (H := fun _ => h8n) (call := fun _ => d3u h8n 6) (fun _ => c4q h8n 6) fun (_ : HL D c8n.ts) (_ : c8n.holds ()) =>
 have o1 : ((1 : Int) = 1 ∨ (1 : Int) = 2) := .inl rfl
 have L := g1c
 have W := fun (n v : Int) (b : UInt8) (h : 1 <= n /\ n <= 28 /\ 1 <= v /\ v <= 255) => cnW n v b h
 pQ ((1 : Int) = 1 ∨ (1 : Int) = 2) o1 (
 pQ ((1 : Int) = 1 ∨ (1 : Int) = 2) o1 (
 pQ ((1 : Int) = 1 ∨ (1 : Int) = 2) o1 (
 pQ ((1 : Int) = 1 ∨ (1 : Int) = 2) o1 (
 pQ (isW (m6 2 2 2)) (W 2 2 2 (by decide)) (
 pQ (isW (m6 1 2 1)) (W 1 2 1 (by decide)) (
 pQ (isW (m6 1 2 7)) (W 1 2 7 (by decide)) (
 pQ (isW (m6 1 1 1)) (W 1 1 1 (by decide)) (
 pQ (isW (m6 9 2 1)) (W 9 2 1 (by decide)) (
 pQ (isW (m6 1 2 1)) (W 1 2 1 (by decide)) (
 pQ (isW (m6 3 4 3)) (W 3 4 3 (by decide)) (
 pQ (isW (m6 4 3 5)) (W 4 3 5 (by decide)) (
 pQ (isW (m6 4 3 5)) (W 4 3 5 (by decide)) (
 pQ (([] : List UInt8).length <= 1000000) (by decide) (
 pQ ((1 : Int) = 1 ∨ (1 : Int) = 2) o1 (
 pQ (plD cnL) L (
 pQ ((2 : Int) = 1 ∨ (2 : Int) = 2) (.inr rfl) (
 pQ (plD cnL) L (
 pQ (plD cnL) L (
 pQ ((1 : Int) = 1 ∨ (1 : Int) = 2) o1 (
 pQ (plD cnL) L (
 pQ (plD cnL) L (
 (rfl : some (true, ()) = some (c8n.ret ()))))))))))))))))))))))))
end
end Go.Proofs.YtpbcabanpppfoaaGreat
namespace Go.Proofs.YtpbcabanpppfoaaGreat
open Go Go.Gx Go.Vz Go.RowKit Go.ChangeShapes Go.WideShapes Go.ChangeAt
theorem b7t (G : Gh) (w : World) (hH : Holds G w) : Calls Tryz.prog 8 #[] w fun e w' => e = .returned (.bool true) /\ ∃ G', Cx w G G' w' :=
 Calls.mono (g1d () G w [] hH trivial rfl) (by
  rintro e w' ⟨v, G', he, hk, hR⟩; have hv : v = .bool true := hR; subst hv; exact ⟨he, G', hk⟩)
theorem g8q : ownKnob Tryz.prog.godebug = none := by kernel_rfl
theorem g6r : Tryz.prog.underlying 4 = some .bool := by kernel_rfl
set_option maxRecDepth 100000 in
theorem b3a (os : Os) (started : os.Started) (H : Type) (enc : TypeId × Value -> H) :
  ReturnsInHanded {} Tryz.checked os 8 .any (Rows.changeNamesSpec.pre6 enc Tryz.prog Tryz.f8 Rows.changeNamesRow.domain false) (Rows.changeNamesSpec.post enc Tryz.prog Tryz.f8 false true false false) := by
 refine returnsInHanded_of_change_sized (C := Tryz.checked) g8q started (by kernel_rfl) Tryz.func8
  (ChangeSpec.witness6 (enc := enc) (C := Tryz.checked) false ⟨#[], #[], []⟩ 8 (by kernel_rfl) (by kernel_rfl) (by kernel_rfl) (by kernel_rfl)) ?_
 intro W base args ds gs before hval0 hW hcnd hsz0 _
 have hW' := hW
 obtain ⟨p, q, hA0, hV, rfl, hfz, hnd⟩ := hW
 have hA : DataW.TrodAll enc Tryz.prog W 0 (fun _ => true) true Tryz.f8.params.toList args.toList ds p := hA0
 rw [Tryz.params8] at hA
 obtain ⟨rfl, rfl, rfl⟩ := trodAll_none hA
 obtain ⟨rfl, rfl⟩ := trodVars_none hV
 clear hA0 hval0
 refine Calls.mono (b7t (hG W) W (d9r W)) fun e W' ⟨he, G', hk⟩ => ?_
 subst he
 have bel := hk.below
 exact ⟨_, rfl, _, _, _, [], _, [], hW', trodAll_mk1 (shut_bool g6r _), rfl, rfl, bel.frame _, fun h => by cases h⟩
theorem changeNames_holds : Rows.ChangeNamesSaid :=
 OpenClaim.holds_of_wide 8 Tryz.f8 rfl rfl rfl rfl rfl rfl rfl ⟨rfl, rfl, rfl, rfl, rfl⟩ rfl rfl rfl rfl rfl (by kernel_rfl) Tryz.func8 (by kernel_rfl)
  (A6 (by kernel_rfl)) (by unfold Func.isWrapper; first | (rw [F8 (by decide +kernel)]; kernel_rfl) | (rw [F7 (by decide +kernel)]; exact ⟨rfl, rfl⟩))
  (fun os started H enc _ => b3a os started H enc)
#print axioms changeNames_holds
end Go.Proofs.YtpbcabanpppfoaaGreat
