/- Change: ChangeTrue is true, walked by reckoning. No condition. -/
import Derived.Test.YtpbcabanpppfoaaGreatCzTx
set_option linter.all false
namespace Go.Proofs.YtpbcabanpppfoaaGreat
open Go Go.Gx Go.Vz
set_option maxRecDepth 100000
section
variable {f v : Int} {i j : Nat} {k k2 : KD} {r : List Change} {n : Nat} {z : Change}
theorem TI.le (h : TI f i k) (hj : i ≤ j) : TI f j k := ⟨h.hd, h.nd, Nat.le_trans h.len hj, h.ch, h.ak⟩
theorem TI.new {q : EL D PS} (h : q.2.2.2.1 = (crewS f, 3 * f + 1, 1, 1, ())) (h1 : q.2.2.2.2.1 = []) (h2 : q.2.2.2.2.2.1 = []) : TI f 0 (kP q) := by
  obtain ⟨a, b, c, d, x, y, u⟩ := q
  have h1 : x = [] := h1
  have h2 : y = [] := h2
  subst h1 h2
  exact ⟨h, List.nodup_nil, Nat.le_refl _, fun n s hs => (by cases hs), fun x n a ha => (by cases ha)⟩
theorem cl_mo {e : EL D BS} (h : e.2.2.1 ≠ []) : (bc_c.post () e).1 = (true, ()) := by
  show ((bif (mgetT (E := D) .dig .str e.2.1 Dig.zero).isSome then true else decide ((0 : Int) < ((e.2.2.1.length : Nat) : Int)), ()) : Bool × Unit) = (true, ())
  have : 0 < e.2.2.1.length := List.length_pos_iff.2 h
  rw [show decide ((0 : Int) < ((e.2.2.1.length : Nat) : Int)) = true by simp; omega]
  cases (mgetT (E := D) .dig .str e.2.1 Dig.zero).isSome <;> rfl
/-- What one that is ready is. -/
abbrev isR (f v : Int) (k : KD) (z : Change) : Prop := ∃ n b, z = says n v b ∧ 1 ≤ n ∧ n ≤ 3 * f ∧ 1 ≤ v ∧ v ≤ 4 ∧ (f < n → b = byt n) ∧ vchB k z = true
theorem getD_at {d : Change} (hn : n < r.length) : r.getD (n : Int).toNat d = r[n] := by
  rw [Int.toNat_natCast, List.getD_eq_getElem?_getD, List.getElem?_eq_getElem hn]; rfl
theorem tc_x (h : TI f i k) (hr : r = rdyL k v (rdyK k)) (hn : n < r.length) {d : Change} : isR f v k (r.getD (n : Int).toNat d) := by
  rw [getD_at hn]
  exact h.rdy (by rw [← hr]; exact List.getElem_mem hn)
theorem tc_o (h : TI f i k) (hr : r = rdyL k v (rdyK k)) (hp : 0 < n) (hn : n < r.length) {d : Change} : ¬ (r.getD (n : Int).toNat d).node ≤ (r.getD ((n - 1 : Nat) : Int).toNat d).node := by
  rw [getD_at hn, getD_at (by omega)]
  have := List.pairwise_iff_getElem.1 (hr ▸ h.ord v) (n - 1) n (by omega) hn (by omega)
  omega
theorem tc_w (h : isR f v k z) : (z.view != v) = false := by
  obtain ⟨n, b, rfl, -⟩ := h
  show (v != v) = false
  simp
theorem tc_W (h : isR f v k z) (hf : f = 1 ∨ f = 2 := by assumption) : isW z := by
  obtain ⟨n, b, rfl, h1, h2, h3, h4, -⟩ := h
  exact saysW h1 (by omega) h3 (by omega)
theorem tc_v (h : TI f i k) (hf : f = 1 ∨ f = 2) (hz : isR f v k z) : (vch_c.post (z, ()) k).1.1 = true ∧ (vch_c.post (z, ()) k).2 = kInk k (chBytes z) := by
  obtain ⟨n, b, rfl, h1, h2, h3, h4, -, h5⟩ := hz
  have e : vch_c.post (says n v b, ()) k = ((vchB k (says n v b), ()), kInk k (chBytes (says n v b))) := by
    show vchP k (says n v b) = _
    unfold vchP
    have hb : hasB (crewS f) (says n v b).node = true := hasB_ok hf h1 (by show n ≤ 3 * f + 1; omega)
    rw [h.fct.cr, hb]; rfl
  rw [e]
  exact ⟨h5, rfl⟩
theorem tc_d (hz : isR f v k z) (hn : f < z.node) : (!dq (α := Change) z (says z.node v (byt z.node))) = false := by
  obtain ⟨n, b, rfl, h1, h2, h3, h4, h5, -⟩ := hz
  have e := h5 hn
  subst e
  unfold dq
  show (!decide (says n v (byt n) = says n v (byt n))) = false
  simp
theorem tc_t (h : TI f i k) {b : List UInt8} (e : k2 = kInk k b) : TI f i k2 := by rw [e]; exact h.ink b
theorem tc_r (h : r = rdyL k v (rdyK k)) {b : List UInt8} (e : k2 = kInk k b) : r = rdyL k2 v (rdyK k2) := by rw [e]; exact h
end
theorem tw_true : tw_c.ok Tryz.prog 4 := Con.proveH (c := tw_c) EF ZL (H := twH) (call := fun a => callW Γt Δt (twH a) 4) (fun a => callW_ok Kt (twH a) 4) fun (a : HL D tw_c.ts) (_ : tw_c.holds a) =>
  have hF := fN_ok a.1
  have hf : (fN a.1 : Int) = 1 ∨ (fN a.1 : Int) = 2 := by omega
  nmd (a := bring_c.ret (a.1, (2 : Int), ())) (fun q1 h1 =>
  have E1 : (IntKind.wrap .i64 ((1 : Int) + q1.1)) = (fN a.1 : Int) := by
    have e : q1.1 = brg a.1 2 := by rw [← h1]; rfl
    have := fN_int a.1
    rw [e, wI (by omega) (by omega)]; omega
  have E3 : (IntKind.wrap .i64 ((3 : Int) * (IntKind.wrap .i64 ((1 : Int) + q1.1)))) = 3 * (fN a.1 : Int) := by rw [E1, wI (by omega) (by omega)]
  have E4 : (IntKind.wrap .i64 ((IntKind.wrap .i64 ((3 : Int) * (IntKind.wrap .i64 ((1 : Int) + q1.1)))) + (1 : Int))) = 3 * (fN a.1 : Int) + 1 := by rw [E3, wI (by omega) (by omega)]
  have hf0 : (IntKind.wrap .i64 ((1 : Int) + q1.1)) = (1 : Int) ∨ (IntKind.wrap .i64 ((1 : Int) + q1.1)) = (2 : Int) := by rw [E1]; exact hf
  nmd (a := bn_c.post () ()) (fun q2 _ =>
  And.intro (Pre.mk (by rw [E4, E1]; exact ⟨by omega, by omega, by omega⟩) : Pre (okF (IntKind.wrap .i64 ((1 : Int) + q1.1)) (IntKind.wrap .i64 ((IntKind.wrap .i64 ((3 : Int) * (IntKind.wrap .i64 ((1 : Int) + q1.1)))) + (1 : Int))))) (
  nmd (a := fr_c.post ((IntKind.wrap .i64 ((1 : Int) + q1.1)), (IntKind.wrap .i64 ((IntKind.wrap .i64 ((3 : Int) * (IntKind.wrap .i64 ((1 : Int) + q1.1)))) + (1 : Int))), ()) q2.2) (fun q3 h3 =>
  have T0 : TI (fN a.1 : Int) 0 (kP q3.2) := by
    rw [← h3]
    refine TI.new ?_ rfl rfl
    show (crewS (IntKind.wrap .i64 ((1 : Int) + q1.1)), (IntKind.wrap .i64 ((IntKind.wrap .i64 ((3 : Int) * (IntKind.wrap .i64 ((1 : Int) + q1.1)))) + (1 : Int))), (1 : Int), (1 : Int), ()) = _
    rw [E4, E1]
  And.intro (⟨(q3.2, (0 : Nat)), rfl, rfl, rfl, ⟨Nat.zero_le _, Nat.zero_le _, T0⟩⟩ : Ent (ta_h (fN a.1 : Int) a.2.1) [SV.i .i64 (0 : Int)] [] (opnEs EF PS eQ PS q3.2)) (
  fun (i : EL D PS × Nat) (hI : i.2 ≤ 80 ∧ i.2 ≤ a.2.1.length ∧ TI (fN a.1 : Int) i.2 (kP i.1)) =>
  brL fun _ : a.2.1.length ≤ maxL =>
  bq (bif decide ((i.2 : Int) < ((a.2.1.length : Nat) : Int)) then decide ((i.2 : Int) < (80 : Int)) else false) (fun h6 =>
  have hj : i.2 < a.2.1.length ∧ i.2 < 80 := by
    cases h : decide ((i.2 : Int) < ((a.2.1.length : Nat) : Int)) with
    | false => rw [h] at h6; cases h6
    | true => rw [h] at h6; have h6 := of_decide_eq_true h6; have h := of_decide_eq_true h; omega
  brN (c := decide ((0 : Int) ≤ (i.2 : Int)) && decide ((i.2 : Int) < ((a.2.1.length : Nat) : Int))) (by simp; omega) (
  And.intro (Pre.mk hf0 : Pre ((IntKind.wrap .i64 ((1 : Int) + q1.1)) = (1 : Int) ∨ (IntKind.wrap .i64 ((1 : Int) + q1.1)) = (2 : Int))) (
  And.intro (Pre.mk (wCh_W hf0) : Pre (isW (wCh (IntKind.wrap .i64 ((1 : Int) + q1.1)) (a.2.1.getD (i.2 : Int).toNat (Ty.dflt D (.st 12)))))) (
  nmd (a := nts_c.post ((wCh (IntKind.wrap .i64 ((1 : Int) + q1.1)) (a.2.1.getD (i.2 : Int).toNat (Ty.dflt D (.st 12)))), ()) ((i.1.1, i.1.2.1, i.1.2.2.1, ()) : EL D BS)) (fun q7 h7 =>
  have hK : ((i.1.2.2.2.1, q7.2.1, i.1.2.2.2.2.1, i.1.2.2.2.2.2.1, q7.2.2) : KD) = kInk (kP i.1) (chBytes (wCh (IntKind.wrap .i64 ((1 : Int) + q1.1)) (a.2.1.getD (i.2 : Int).toNat (Ty.dflt D (.st 12))))) := by rw [← h7]; rfl
  brN (c := decide ((0 : Int) ≤ (i.2 : Int)) && decide ((i.2 : Int) < ((a.2.1.length : Nat) : Int))) (by simp; omega) (
  And.intro (Pre.mk hf0 : Pre ((IntKind.wrap .i64 ((1 : Int) + q1.1)) = (1 : Int) ∨ (IntKind.wrap .i64 ((1 : Int) + q1.1)) = (2 : Int))) (
  And.intro (Pre.mk (wNt_ok hf0) : Pre (isNt (wNt (IntKind.wrap .i64 ((1 : Int) + q1.1)) (a.2.1.getD (i.2 : Int).toNat (Ty.dflt D (.st 12)))))) (
  nmd (a := tk_c.post (wNt (IntKind.wrap .i64 ((1 : Int) + q1.1)) (a.2.1.getD (i.2 : Int).toNat (Ty.dflt D (.st 12))), ()) ((i.1.2.2.2.1, q7.2.1, i.1.2.2.2.2.1, i.1.2.2.2.2.2.1, q7.2.2) : KD)) (fun q8 h8 =>
  have T8 : TI (fN a.1 : Int) (i.2 + 1) q8.2 := by
    rw [← h8, hK, E1]
    exact (hI.2.2.ink _).take hf (inB_ink _ _)
  (⟨(pK q8.2, i.2 + 1), by
      show [SV.i .i64 (IntKind.wrap .i64 ((i.2 : Int) + 1))] = [iv ((i.2 + 1 : Nat) : Int)]
      rw [wr1 (by omega)], rfl, rfl, ⟨hj.2, hj.1, T8⟩, by show 80 - (i.2 + 1) < 80 - i.2; omega⟩ : Rnd (ta_h (fN a.1 : Int) a.2.1) i [SV.i .i64 (IntKind.wrap .i64 ((i.2 : Int) + 1))] [] (opnEs EF PS eQ PS (pK q8.2)))))))))))) (fun _ =>
  have T : TI (fN a.1 : Int) 80 (kP i.1) := hI.2.2.le hI.1
  nmd (a := bring_c.ret (a.2.2.1.l.getD (0 : Int).toNat (0 : Int), (IntKind.wrap .i64 ((IntKind.wrap .i64 ((3 : Int) * (IntKind.wrap .i64 ((1 : Int) + q1.1)))) + (1 : Int))), ())) (fun q7 h7 =>
  nmd (a := bring_c.ret (a.2.2.1.l.getD (1 : Int).toNat (0 : Int), (4 : Int), ())) (fun q8 h8 =>
  have hn : 1 ≤ (IntKind.wrap .i64 ((1 : Int) + q7.1)) ∧ (IntKind.wrap .i64 ((1 : Int) + q7.1)) ≤ 3 * (fN a.1 : Int) + 1 := by
    have e : q7.1 = brg (a.2.2.1.l.getD (0 : Int).toNat (0 : Int)) (3 * (fN a.1 : Int) + 1) := by rw [← h7, E4]; rfl
    have := brg_ok (x := a.2.2.1.l.getD (0 : Int).toNat (0 : Int)) (n := 3 * (fN a.1 : Int) + 1) (by omega) (by omega)
    rw [e, wI (by omega) (by omega)]; omega
  have hv : 1 ≤ (IntKind.wrap .i64 ((1 : Int) + q8.1)) ∧ (IntKind.wrap .i64 ((1 : Int) + q8.1)) ≤ 4 := by
    have e : q8.1 = brg (a.2.2.1.l.getD (1 : Int).toNat (0 : Int)) 4 := by rw [← h8]; rfl
    have := brg_ok (x := a.2.2.1.l.getD (1 : Int).toNat (0 : Int)) (n := 4) (by decide) (by decide)
    rw [e, wI (by omega) (by omega)]; omega
  bq (decide ((IntKind.wrap .i64 ((1 : Int) + q1.1)) < (IntKind.wrap .i64 ((1 : Int) + q7.1)))) (fun h9 =>
  And.intro (Pre.mk ⟨saysW hn.1 (by omega) hv.1 (by omega), T.okK hf (by decide)⟩ : Pre (isW (says (IntKind.wrap .i64 ((1 : Int) + q7.1)) (IntKind.wrap .i64 ((1 : Int) + q8.1)) (byt (a.2.2.1.l.getD (2 : Int).toNat (0 : Int)))) ∧ okK (kP i.1))) (
  nmd (a := vch_c.post ((says (IntKind.wrap .i64 ((1 : Int) + q7.1)) (IntKind.wrap .i64 ((1 : Int) + q8.1)) (byt (a.2.2.1.l.getD (2 : Int).toNat (0 : Int)))), ()) (kP i.1)) (fun q10 h10 =>
  have e10 : q10 = ((vchB (kP i.1) (says (IntKind.wrap .i64 ((1 : Int) + q7.1)) (IntKind.wrap .i64 ((1 : Int) + q8.1)) (byt (a.2.2.1.l.getD (2 : Int).toNat (0 : Int)))), ()), kInk (kP i.1) (chBytes (says (IntKind.wrap .i64 ((1 : Int) + q7.1)) (IntKind.wrap .i64 ((1 : Int) + q8.1)) (byt (a.2.2.1.l.getD (2 : Int).toNat (0 : Int)))))) := by
    rw [← h10]
    show vchP (kP i.1) (says (IntKind.wrap .i64 ((1 : Int) + q7.1)) (IntKind.wrap .i64 ((1 : Int) + q8.1)) (byt (a.2.2.1.l.getD (2 : Int).toNat (0 : Int)))) = _
    unfold vchP
    have hb : hasB (crewS (fN a.1 : Int)) (says (IntKind.wrap .i64 ((1 : Int) + q7.1)) (IntKind.wrap .i64 ((1 : Int) + q8.1)) (byt (a.2.2.1.l.getD (2 : Int).toNat (0 : Int)))).node = true := hasB_ok hf hn.1 hn.2
    rw [T.fct.cr, hb]; rfl
  bq (bif q10.1.1 then (((byt (a.2.2.1.l.getD (2 : Int).toNat (0 : Int))).toNat : Nat) : Int) != (((byt (IntKind.wrap .i64 ((1 : Int) + q7.1))).toNat : Nat) : Int) else false) (fun h11 =>
  nmd (a := bc_c.post () ((q10.2.2.1, q10.2.2.2.2.2) : EL D BS)) (fun q12 h12 => (by
    have hq : q10.1.1 = true ∧ (byt (a.2.2.1.l.getD (2 : Int).toNat (0 : Int))) ≠ byt (IntKind.wrap .i64 ((1 : Int) + q7.1)) := by
      cases hb : q10.1.1 with
      | false => rw [hb] at h11; cases h11
      | true =>
        rw [hb, cond_true] at h11
        refine ⟨rfl, fun e => ?_⟩
        rw [e] at h11
        simp at h11
    have g := of_decide_eq_true h9
    rw [E1] at g
    have hm := T.vch hf g hv.1 hq.2 (by rw [← hq.1, e10])
    rw [← h12]
    exact congrArg some (cl_mo (by rw [e10]; exact hm)) : some q12.1 = some (true, ())))) (fun _ =>
  And.intro (⟨((pK q10.2), (0 : Nat)), rfl, rfl, rfl, ⟨Nat.zero_le _, (tc_t T (congrArg Prod.snd e10))⟩⟩ : Ent (tb_h (fN a.1 : Int)) [SV.i .i64 (0 : Int)] [] (opnEs EF PS eQ PS (pK q10.2))) (
  fun (g : EL D PS × Nat) (hG : g.2 ≤ 6 ∧ TI (fN a.1 : Int) 80 (kP g.1)) =>
  bq (decide ((g.2 : Int) < (6 : Int))) (fun h13 =>
  have hg6 : g.2 + 1 ≤ 6 := by have := of_decide_eq_true h13; omega
  And.intro (Pre.mk (hG.2.okK hf (by decide)) : Pre (okK (kP g.1))) (
  nmd (a := (rdy_c.post ((g.2 : Int), ()) (kP g.1)).1) (fun q14 h14 =>
  have hr : q14.1 = rdyL (kP g.1) (g.2 : Int) (rdyK (kP g.1)) := by rw [← h14]; rfl
  And.intro (⟨(g.1, (0 : Nat)), rfl, rfl, rfl, ⟨Nat.zero_le _, hG.2, hr⟩⟩ : Ent (tc_h (fN a.1 : Int) (g.2 : Int) q14.1) [SV.i .i64 (0 : Int)] [] (opnEs EF PS eQ PS g.1)) (
  fun (c : EL D PS × Nat) (hC : c.2 ≤ q14.1.length ∧ TI (fN a.1 : Int) 80 (kP c.1) ∧ q14.1 = rdyL (kP c.1) (g.2 : Int) (rdyK (kP c.1))) =>
  brL fun hm : q14.1.length ≤ maxL =>
  bq (decide ((c.2 : Int) < ((q14.1.length : Nat) : Int))) (fun h17 =>
  have hc : c.2 < q14.1.length := by have := of_decide_eq_true h17; omega
  have hX := tc_x hC.2.1 hC.2.2 hc
  brN (c := decide ((0 : Int) ≤ (c.2 : Int)) && decide ((c.2 : Int) < ((q14.1.length : Nat) : Int))) (by simp; omega) (
  bq ((q14.1.getD (c.2 : Int).toNat (Ty.dflt D (.st 3))).view != (g.2 : Int)) (fun h => nmd (a := bc_c.post () ((c.1.1, c.1.2.1, c.1.2.2.1, ()) : EL D BS)) (fun q _ => (absurd (by rw [tc_w hX] at h; exact h) Bool.false_ne_true : some q.1 = some (true, ())))) (fun _ =>
  bq (decide ((0 : Int) < (c.2 : Int))) (fun h19 =>
  have hp : 0 < c.2 := by have := of_decide_eq_true h19; omega
  have eP : (IntKind.wrap .i64 ((c.2 : Int) - (1 : Int))) = ((c.2 - 1 : Nat) : Int) := by unfold maxL at hm; rw [IntWalk.i64_in _ (by omega)]; omega
  brN (c := decide ((0 : Int) ≤ (c.2 : Int)) && decide ((c.2 : Int) < ((q14.1.length : Nat) : Int))) (by simp; omega) (
  brN (c := decide ((0 : Int) ≤ (IntKind.wrap .i64 ((c.2 : Int) - (1 : Int)))) && decide ((IntKind.wrap .i64 ((c.2 : Int) - (1 : Int))) < ((q14.1.length : Nat) : Int))) (by rw [eP]; simp; omega) (
  bq (decide ((q14.1.getD (c.2 : Int).toNat (Ty.dflt D (.st 3))).node ≤ (q14.1.getD (IntKind.wrap .i64 ((c.2 : Int) - (1 : Int))).toNat (Ty.dflt D (.st 3))).node)) (fun h => nmd (a := bc_c.post () ((c.1.1, c.1.2.1, c.1.2.2.1, ()) : EL D BS)) (fun q _ => (absurd (of_decide_eq_true h) (by rw [eP]; exact tc_o hC.2.1 hC.2.2 hp hc) : some q.1 = some (true, ())))) (fun _ =>
  brN (c := decide ((0 : Int) ≤ (c.2 : Int)) && decide ((c.2 : Int) < ((q14.1.length : Nat) : Int))) (by simp; omega) (
  And.intro (Pre.mk ⟨tc_W hX, hC.2.1.okK hf (by decide)⟩ : Pre (isW (q14.1.getD (c.2 : Int).toNat (Ty.dflt D (.st 3))) ∧ okK (kP c.1))) (
  nmd (a := vch_c.post ((q14.1.getD (c.2 : Int).toNat (Ty.dflt D (.st 3))), ()) (kP c.1)) (fun q21 h21 =>
  have V : q21.1.1 = true ∧ q21.2 = kInk (kP c.1) (chBytes (q14.1.getD (c.2 : Int).toNat (Ty.dflt D (.st 3)))) := by rw [← h21]; exact tc_v hC.2.1 hf hX
  bq (!q21.1.1) (fun h => nmd (a := bc_c.post () ((q21.2.2.1, q21.2.2.2.2.2) : EL D BS)) (fun q _ => (absurd (by rw [V.1] at h; exact h) Bool.false_ne_true : some q.1 = some (true, ())))) (fun _ =>
  brN (c := decide ((0 : Int) ≤ (c.2 : Int)) && decide ((c.2 : Int) < ((q14.1.length : Nat) : Int))) (by simp; omega) (
  bq (decide ((IntKind.wrap .i64 ((1 : Int) + q1.1)) < (q14.1.getD (c.2 : Int).toNat (Ty.dflt D (.st 3))).node)) (fun h23 =>
  brN (c := decide ((0 : Int) ≤ (c.2 : Int)) && decide ((c.2 : Int) < ((q14.1.length : Nat) : Int))) (by simp; omega) (
  brN (c := decide ((0 : Int) ≤ (c.2 : Int)) && decide ((c.2 : Int) < ((q14.1.length : Nat) : Int))) (by simp; omega) (
  brN (c := decide ((0 : Int) ≤ (c.2 : Int)) && decide ((c.2 : Int) < ((q14.1.length : Nat) : Int))) (by simp; omega) (
  bq (!dq (α := Change) (q14.1.getD (c.2 : Int).toNat (Ty.dflt D (.st 3))) (says (q14.1.getD (c.2 : Int).toNat (Ty.dflt D (.st 3))).node (g.2 : Int) (byt (q14.1.getD (c.2 : Int).toNat (Ty.dflt D (.st 3))).node))) (fun h => nmd (a := bc_c.post () ((q21.2.2.1, q21.2.2.2.2.2) : EL D BS)) (fun q _ => (absurd (by rw [tc_d hX (by rw [← E1]; exact of_decide_eq_true h23)] at h; exact h) Bool.false_ne_true : some q.1 = some (true, ())))) (fun _ =>
  (⟨(pK q21.2, c.2 + 1), by
      show [SV.i .i64 (IntKind.wrap .i64 ((c.2 : Int) + 1))] = [iv ((c.2 + 1 : Nat) : Int)]
      rw [wrap1 hc hm], rfl, rfl, ⟨hc, tc_t hC.2.1 V.2, tc_r hC.2.2 V.2⟩, by show q14.1.length - (c.2 + 1) < q14.1.length - c.2; omega⟩ : Rnd (tc_h (fN a.1 : Int) (g.2 : Int) q14.1) c [SV.i .i64 (IntKind.wrap .i64 ((c.2 : Int) + 1))] [] (opnEs EF PS eQ PS (pK q21.2)))))))) (fun _ =>
  (⟨(pK q21.2, c.2 + 1), by
      show [SV.i .i64 (IntKind.wrap .i64 ((c.2 : Int) + 1))] = [iv ((c.2 + 1 : Nat) : Int)]
      rw [wrap1 hc hm], rfl, rfl, ⟨hc, tc_t hC.2.1 V.2, tc_r hC.2.2 V.2⟩, by show q14.1.length - (c.2 + 1) < q14.1.length - c.2; omega⟩ : Rnd (tc_h (fN a.1 : Int) (g.2 : Int) q14.1) c [SV.i .i64 (IntKind.wrap .i64 ((c.2 : Int) + 1))] [] (opnEs EF PS eQ PS (pK q21.2))))))))))))) (fun _ =>
  brN (c := decide ((0 : Int) ≤ (c.2 : Int)) && decide ((c.2 : Int) < ((q14.1.length : Nat) : Int))) (by simp; omega) (
  And.intro (Pre.mk ⟨tc_W hX, hC.2.1.okK hf (by decide)⟩ : Pre (isW (q14.1.getD (c.2 : Int).toNat (Ty.dflt D (.st 3))) ∧ okK (kP c.1))) (
  nmd (a := vch_c.post ((q14.1.getD (c.2 : Int).toNat (Ty.dflt D (.st 3))), ()) (kP c.1)) (fun q21 h21 =>
  have V : q21.1.1 = true ∧ q21.2 = kInk (kP c.1) (chBytes (q14.1.getD (c.2 : Int).toNat (Ty.dflt D (.st 3)))) := by rw [← h21]; exact tc_v hC.2.1 hf hX
  bq (!q21.1.1) (fun h => nmd (a := bc_c.post () ((q21.2.2.1, q21.2.2.2.2.2) : EL D BS)) (fun q _ => (absurd (by rw [V.1] at h; exact h) Bool.false_ne_true : some q.1 = some (true, ())))) (fun _ =>
  brN (c := decide ((0 : Int) ≤ (c.2 : Int)) && decide ((c.2 : Int) < ((q14.1.length : Nat) : Int))) (by simp; omega) (
  bq (decide ((IntKind.wrap .i64 ((1 : Int) + q1.1)) < (q14.1.getD (c.2 : Int).toNat (Ty.dflt D (.st 3))).node)) (fun h23 =>
  brN (c := decide ((0 : Int) ≤ (c.2 : Int)) && decide ((c.2 : Int) < ((q14.1.length : Nat) : Int))) (by simp; omega) (
  brN (c := decide ((0 : Int) ≤ (c.2 : Int)) && decide ((c.2 : Int) < ((q14.1.length : Nat) : Int))) (by simp; omega) (
  brN (c := decide ((0 : Int) ≤ (c.2 : Int)) && decide ((c.2 : Int) < ((q14.1.length : Nat) : Int))) (by simp; omega) (
  bq (!dq (α := Change) (q14.1.getD (c.2 : Int).toNat (Ty.dflt D (.st 3))) (says (q14.1.getD (c.2 : Int).toNat (Ty.dflt D (.st 3))).node (g.2 : Int) (byt (q14.1.getD (c.2 : Int).toNat (Ty.dflt D (.st 3))).node))) (fun h => nmd (a := bc_c.post () ((q21.2.2.1, q21.2.2.2.2.2) : EL D BS)) (fun q _ => (absurd (by rw [tc_d hX (by rw [← E1]; exact of_decide_eq_true h23)] at h; exact h) Bool.false_ne_true : some q.1 = some (true, ())))) (fun _ =>
  (⟨(pK q21.2, c.2 + 1), by
      show [SV.i .i64 (IntKind.wrap .i64 ((c.2 : Int) + 1))] = [iv ((c.2 + 1 : Nat) : Int)]
      rw [wrap1 hc hm], rfl, rfl, ⟨hc, tc_t hC.2.1 V.2, tc_r hC.2.2 V.2⟩, by show q14.1.length - (c.2 + 1) < q14.1.length - c.2; omega⟩ : Rnd (tc_h (fN a.1 : Int) (g.2 : Int) q14.1) c [SV.i .i64 (IntKind.wrap .i64 ((c.2 : Int) + 1))] [] (opnEs EF PS eQ PS (pK q21.2)))))))) (fun _ =>
  (⟨(pK q21.2, c.2 + 1), by
      show [SV.i .i64 (IntKind.wrap .i64 ((c.2 : Int) + 1))] = [iv ((c.2 + 1 : Nat) : Int)]
      rw [wrap1 hc hm], rfl, rfl, ⟨hc, tc_t hC.2.1 V.2, tc_r hC.2.2 V.2⟩, by show q14.1.length - (c.2 + 1) < q14.1.length - c.2; omega⟩ : Rnd (tc_h (fN a.1 : Int) (g.2 : Int) q14.1) c [SV.i .i64 (IntKind.wrap .i64 ((c.2 : Int) + 1))] [] (opnEs EF PS eQ PS (pK q21.2))))))))))))) (fun _ =>
  (⟨(c.1, g.2 + 1), by
      show [SV.i .i64 (IntKind.wrap .i64 ((g.2 : Int) + 1))] = [iv ((g.2 + 1 : Nat) : Int)]
      rw [wr1 (by omega)], rfl, rfl, ⟨hg6, hC.2.1⟩, by show 6 - (g.2 + 1) < 6 - g.2; omega⟩ : Rnd (tb_h (fN a.1 : Int)) g [SV.i .i64 (IntKind.wrap .i64 ((g.2 : Int) + 1))] [] (opnEs EF PS eQ PS c.1))))))) (fun _ =>
  (rfl : some (true, ()) = some (true, ())))))))) (fun _ =>
  And.intro (⟨(i.1, (0 : Nat)), rfl, rfl, rfl, ⟨Nat.zero_le _, T⟩⟩ : Ent (tb_h (fN a.1 : Int)) [SV.i .i64 (0 : Int)] [] (opnEs EF PS eQ PS i.1)) (
  fun (g : EL D PS × Nat) (hG : g.2 ≤ 6 ∧ TI (fN a.1 : Int) 80 (kP g.1)) =>
  bq (decide ((g.2 : Int) < (6 : Int))) (fun h13 =>
  have hg6 : g.2 + 1 ≤ 6 := by have := of_decide_eq_true h13; omega
  And.intro (Pre.mk (hG.2.okK hf (by decide)) : Pre (okK (kP g.1))) (
  nmd (a := (rdy_c.post ((g.2 : Int), ()) (kP g.1)).1) (fun q14 h14 =>
  have hr : q14.1 = rdyL (kP g.1) (g.2 : Int) (rdyK (kP g.1)) := by rw [← h14]; rfl
  And.intro (⟨(g.1, (0 : Nat)), rfl, rfl, rfl, ⟨Nat.zero_le _, hG.2, hr⟩⟩ : Ent (tc_h (fN a.1 : Int) (g.2 : Int) q14.1) [SV.i .i64 (0 : Int)] [] (opnEs EF PS eQ PS g.1)) (
  fun (c : EL D PS × Nat) (hC : c.2 ≤ q14.1.length ∧ TI (fN a.1 : Int) 80 (kP c.1) ∧ q14.1 = rdyL (kP c.1) (g.2 : Int) (rdyK (kP c.1))) =>
  brL fun hm : q14.1.length ≤ maxL =>
  bq (decide ((c.2 : Int) < ((q14.1.length : Nat) : Int))) (fun h17 =>
  have hc : c.2 < q14.1.length := by have := of_decide_eq_true h17; omega
  have hX := tc_x hC.2.1 hC.2.2 hc
  brN (c := decide ((0 : Int) ≤ (c.2 : Int)) && decide ((c.2 : Int) < ((q14.1.length : Nat) : Int))) (by simp; omega) (
  bq ((q14.1.getD (c.2 : Int).toNat (Ty.dflt D (.st 3))).view != (g.2 : Int)) (fun h => nmd (a := bc_c.post () ((c.1.1, c.1.2.1, c.1.2.2.1, ()) : EL D BS)) (fun q _ => (absurd (by rw [tc_w hX] at h; exact h) Bool.false_ne_true : some q.1 = some (true, ())))) (fun _ =>
  bq (decide ((0 : Int) < (c.2 : Int))) (fun h19 =>
  have hp : 0 < c.2 := by have := of_decide_eq_true h19; omega
  have eP : (IntKind.wrap .i64 ((c.2 : Int) - (1 : Int))) = ((c.2 - 1 : Nat) : Int) := by unfold maxL at hm; rw [IntWalk.i64_in _ (by omega)]; omega
  brN (c := decide ((0 : Int) ≤ (c.2 : Int)) && decide ((c.2 : Int) < ((q14.1.length : Nat) : Int))) (by simp; omega) (
  brN (c := decide ((0 : Int) ≤ (IntKind.wrap .i64 ((c.2 : Int) - (1 : Int)))) && decide ((IntKind.wrap .i64 ((c.2 : Int) - (1 : Int))) < ((q14.1.length : Nat) : Int))) (by rw [eP]; simp; omega) (
  bq (decide ((q14.1.getD (c.2 : Int).toNat (Ty.dflt D (.st 3))).node ≤ (q14.1.getD (IntKind.wrap .i64 ((c.2 : Int) - (1 : Int))).toNat (Ty.dflt D (.st 3))).node)) (fun h => nmd (a := bc_c.post () ((c.1.1, c.1.2.1, c.1.2.2.1, ()) : EL D BS)) (fun q _ => (absurd (of_decide_eq_true h) (by rw [eP]; exact tc_o hC.2.1 hC.2.2 hp hc) : some q.1 = some (true, ())))) (fun _ =>
  brN (c := decide ((0 : Int) ≤ (c.2 : Int)) && decide ((c.2 : Int) < ((q14.1.length : Nat) : Int))) (by simp; omega) (
  And.intro (Pre.mk ⟨tc_W hX, hC.2.1.okK hf (by decide)⟩ : Pre (isW (q14.1.getD (c.2 : Int).toNat (Ty.dflt D (.st 3))) ∧ okK (kP c.1))) (
  nmd (a := vch_c.post ((q14.1.getD (c.2 : Int).toNat (Ty.dflt D (.st 3))), ()) (kP c.1)) (fun q21 h21 =>
  have V : q21.1.1 = true ∧ q21.2 = kInk (kP c.1) (chBytes (q14.1.getD (c.2 : Int).toNat (Ty.dflt D (.st 3)))) := by rw [← h21]; exact tc_v hC.2.1 hf hX
  bq (!q21.1.1) (fun h => nmd (a := bc_c.post () ((q21.2.2.1, q21.2.2.2.2.2) : EL D BS)) (fun q _ => (absurd (by rw [V.1] at h; exact h) Bool.false_ne_true : some q.1 = some (true, ())))) (fun _ =>
  brN (c := decide ((0 : Int) ≤ (c.2 : Int)) && decide ((c.2 : Int) < ((q14.1.length : Nat) : Int))) (by simp; omega) (
  bq (decide ((IntKind.wrap .i64 ((1 : Int) + q1.1)) < (q14.1.getD (c.2 : Int).toNat (Ty.dflt D (.st 3))).node)) (fun h23 =>
  brN (c := decide ((0 : Int) ≤ (c.2 : Int)) && decide ((c.2 : Int) < ((q14.1.length : Nat) : Int))) (by simp; omega) (
  brN (c := decide ((0 : Int) ≤ (c.2 : Int)) && decide ((c.2 : Int) < ((q14.1.length : Nat) : Int))) (by simp; omega) (
  brN (c := decide ((0 : Int) ≤ (c.2 : Int)) && decide ((c.2 : Int) < ((q14.1.length : Nat) : Int))) (by simp; omega) (
  bq (!dq (α := Change) (q14.1.getD (c.2 : Int).toNat (Ty.dflt D (.st 3))) (says (q14.1.getD (c.2 : Int).toNat (Ty.dflt D (.st 3))).node (g.2 : Int) (byt (q14.1.getD (c.2 : Int).toNat (Ty.dflt D (.st 3))).node))) (fun h => nmd (a := bc_c.post () ((q21.2.2.1, q21.2.2.2.2.2) : EL D BS)) (fun q _ => (absurd (by rw [tc_d hX (by rw [← E1]; exact of_decide_eq_true h23)] at h; exact h) Bool.false_ne_true : some q.1 = some (true, ())))) (fun _ =>
  (⟨(pK q21.2, c.2 + 1), by
      show [SV.i .i64 (IntKind.wrap .i64 ((c.2 : Int) + 1))] = [iv ((c.2 + 1 : Nat) : Int)]
      rw [wrap1 hc hm], rfl, rfl, ⟨hc, tc_t hC.2.1 V.2, tc_r hC.2.2 V.2⟩, by show q14.1.length - (c.2 + 1) < q14.1.length - c.2; omega⟩ : Rnd (tc_h (fN a.1 : Int) (g.2 : Int) q14.1) c [SV.i .i64 (IntKind.wrap .i64 ((c.2 : Int) + 1))] [] (opnEs EF PS eQ PS (pK q21.2)))))))) (fun _ =>
  (⟨(pK q21.2, c.2 + 1), by
      show [SV.i .i64 (IntKind.wrap .i64 ((c.2 : Int) + 1))] = [iv ((c.2 + 1 : Nat) : Int)]
      rw [wrap1 hc hm], rfl, rfl, ⟨hc, tc_t hC.2.1 V.2, tc_r hC.2.2 V.2⟩, by show q14.1.length - (c.2 + 1) < q14.1.length - c.2; omega⟩ : Rnd (tc_h (fN a.1 : Int) (g.2 : Int) q14.1) c [SV.i .i64 (IntKind.wrap .i64 ((c.2 : Int) + 1))] [] (opnEs EF PS eQ PS (pK q21.2))))))))))))) (fun _ =>
  brN (c := decide ((0 : Int) ≤ (c.2 : Int)) && decide ((c.2 : Int) < ((q14.1.length : Nat) : Int))) (by simp; omega) (
  And.intro (Pre.mk ⟨tc_W hX, hC.2.1.okK hf (by decide)⟩ : Pre (isW (q14.1.getD (c.2 : Int).toNat (Ty.dflt D (.st 3))) ∧ okK (kP c.1))) (
  nmd (a := vch_c.post ((q14.1.getD (c.2 : Int).toNat (Ty.dflt D (.st 3))), ()) (kP c.1)) (fun q21 h21 =>
  have V : q21.1.1 = true ∧ q21.2 = kInk (kP c.1) (chBytes (q14.1.getD (c.2 : Int).toNat (Ty.dflt D (.st 3)))) := by rw [← h21]; exact tc_v hC.2.1 hf hX
  bq (!q21.1.1) (fun h => nmd (a := bc_c.post () ((q21.2.2.1, q21.2.2.2.2.2) : EL D BS)) (fun q _ => (absurd (by rw [V.1] at h; exact h) Bool.false_ne_true : some q.1 = some (true, ())))) (fun _ =>
  brN (c := decide ((0 : Int) ≤ (c.2 : Int)) && decide ((c.2 : Int) < ((q14.1.length : Nat) : Int))) (by simp; omega) (
  bq (decide ((IntKind.wrap .i64 ((1 : Int) + q1.1)) < (q14.1.getD (c.2 : Int).toNat (Ty.dflt D (.st 3))).node)) (fun h23 =>
  brN (c := decide ((0 : Int) ≤ (c.2 : Int)) && decide ((c.2 : Int) < ((q14.1.length : Nat) : Int))) (by simp; omega) (
  brN (c := decide ((0 : Int) ≤ (c.2 : Int)) && decide ((c.2 : Int) < ((q14.1.length : Nat) : Int))) (by simp; omega) (
  brN (c := decide ((0 : Int) ≤ (c.2 : Int)) && decide ((c.2 : Int) < ((q14.1.length : Nat) : Int))) (by simp; omega) (
  bq (!dq (α := Change) (q14.1.getD (c.2 : Int).toNat (Ty.dflt D (.st 3))) (says (q14.1.getD (c.2 : Int).toNat (Ty.dflt D (.st 3))).node (g.2 : Int) (byt (q14.1.getD (c.2 : Int).toNat (Ty.dflt D (.st 3))).node))) (fun h => nmd (a := bc_c.post () ((q21.2.2.1, q21.2.2.2.2.2) : EL D BS)) (fun q _ => (absurd (by rw [tc_d hX (by rw [← E1]; exact of_decide_eq_true h23)] at h; exact h) Bool.false_ne_true : some q.1 = some (true, ())))) (fun _ =>
  (⟨(pK q21.2, c.2 + 1), by
      show [SV.i .i64 (IntKind.wrap .i64 ((c.2 : Int) + 1))] = [iv ((c.2 + 1 : Nat) : Int)]
      rw [wrap1 hc hm], rfl, rfl, ⟨hc, tc_t hC.2.1 V.2, tc_r hC.2.2 V.2⟩, by show q14.1.length - (c.2 + 1) < q14.1.length - c.2; omega⟩ : Rnd (tc_h (fN a.1 : Int) (g.2 : Int) q14.1) c [SV.i .i64 (IntKind.wrap .i64 ((c.2 : Int) + 1))] [] (opnEs EF PS eQ PS (pK q21.2)))))))) (fun _ =>
  (⟨(pK q21.2, c.2 + 1), by
      show [SV.i .i64 (IntKind.wrap .i64 ((c.2 : Int) + 1))] = [iv ((c.2 + 1 : Nat) : Int)]
      rw [wrap1 hc hm], rfl, rfl, ⟨hc, tc_t hC.2.1 V.2, tc_r hC.2.2 V.2⟩, by show q14.1.length - (c.2 + 1) < q14.1.length - c.2; omega⟩ : Rnd (tc_h (fN a.1 : Int) (g.2 : Int) q14.1) c [SV.i .i64 (IntKind.wrap .i64 ((c.2 : Int) + 1))] [] (opnEs EF PS eQ PS (pK q21.2))))))))))))) (fun _ =>
  (⟨(c.1, g.2 + 1), by
      show [SV.i .i64 (IntKind.wrap .i64 ((g.2 : Int) + 1))] = [iv ((g.2 + 1 : Nat) : Int)]
      rw [wr1 (by omega)], rfl, rfl, ⟨hg6, hC.2.1⟩, by show 6 - (g.2 + 1) < 6 - g.2; omega⟩ : Rnd (tb_h (fN a.1 : Int)) g [SV.i .i64 (IntKind.wrap .i64 ((g.2 : Int) + 1))] [] (opnEs EF PS eQ PS c.1))))))) (fun _ =>
  (rfl : some (true, ()) = some (true, ())))))))))))))
end Go.Proofs.YtpbcabanpppfoaaGreat
