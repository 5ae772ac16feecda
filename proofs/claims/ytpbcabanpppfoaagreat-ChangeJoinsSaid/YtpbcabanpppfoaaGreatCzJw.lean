/- Change: ChangeJoins is true, walked by reckoning. No condition. -/
import Derived.Test.YtpbcabanpppfoaaGreatCzJx
set_option linter.all false
namespace Go.Proofs.YtpbcabanpppfoaaGreat
open Go Go.Gx Go.Vz
set_option maxRecDepth 100000
section
variable {l R : List Int} {F m : Nat} {most v : Int}
theorem ja_y (h : R = rcd l F m) (hF : F ≤ m) (hv : v = vw l m) : R ++ [v] = rcd l F (m + 1) := by rw [rcd_y hF, h, hv]
theorem ja_n (h : R = rcd l F m) (hF : ¬ F ≤ m) : R = rcd l F (m + 1) := by rw [rcd_n hF, h]
theorem ja_yw (h : ∀ w ∈ rcd l F m, w ≤ most) (hF : F ≤ m) (hv : v = vw l m) : ∀ w ∈ rcd l F (m + 1), w ≤ max most v := by
  intro w hw
  rw [rcd_y hF] at hw
  rcases List.mem_append.1 hw with hw | hw
  · have := h w hw; omega
  · rw [List.mem_singleton] at hw; omega
theorem ja_nw (h : ∀ w ∈ rcd l F m, w ≤ most) (hF : ¬ F ≤ m) : ∀ w ∈ rcd l F (m + 1), w ≤ most := by rw [rcd_n hF]; exact h
theorem jc_y {x : Int} {c : Nat × Nat} (hc : c.2 < R.length) (h : c.1 = geq x (R.take c.2)) (e : decide (x ≤ R.getD (c.2 : Int).toNat 0) = true) : c.1 + 1 = geq x (R.take (c.2 + 1)) := by
  rw [Int.toNat_natCast, List.getD_eq_getElem?_getD, List.getElem?_eq_getElem hc, Option.getD_some] at e
  rw [List.take_succ_eq_append_getElem hc, geq, List.countP_append, h]
  simp only [List.countP_cons, e]; rfl
theorem jc_n {x : Int} {c : Nat × Nat} (hc : c.2 < R.length) (h : c.1 = geq x (R.take c.2)) (e : decide (x ≤ R.getD (c.2 : Int).toNat 0) = false) : c.1 = geq x (R.take (c.2 + 1)) := by
  rw [Int.toNat_natCast, List.getD_eq_getElem?_getD, List.getElem?_eq_getElem hc, Option.getD_some] at e
  rw [List.take_succ_eq_append_getElem hc, geq, List.countP_append, h]
  simp only [List.countP_cons, e]; rfl
variable {k : KD} (hF : F = 1 ∨ F = 2)
include hF
theorem hFi : (F : Int) = 1 ∨ (F : Int) = 2 := by omega
theorem jI_n (h : jI l F m k) (hv : ¬ 0 < vw l m) : jI l F (m + 1) k := by
  show Fct _ _ (chJ l (m + 1)) _ _
  rw [chJ_n hv]; exact h
theorem jI_y (h : jI l F m k) (hm : m < 3 * F) (hv : 0 < vw l m) (e : v = vw l m) : jI l F (m + 1) (tk_c.post (tells (says ((m + 1 : Nat) : Int) v (byt ((m + 1 : Nat) : Int))), ()) k).2 := by
  show Fct _ _ (chJ l (m + 1)) _ (takeP k (tells (says ((m + 1 : Nat) : Int) v (byt ((m + 1 : Nat) : Int))))).2
  rw [take_tell h (hFi hF) (by omega) (by omega) (by omega)]
  have hn := chJ_new (l := l) (n := m) (m := m) (Nat.le_refl _)
  have h0 : sdO (chJ l m) ((m + 1 : Nat) : Int) = none := sdO_none hn
  have hs : (sd (chJ l m) ((m + 1 : Nat) : Int)).change.view = 0 := by
    show ((sdO (chJ l m) ((m + 1 : Nat) : Int)).getD said0).change.view = 0
    rw [h0]; rfl
  have g := (takeC_new h (n := ((m + 1 : Nat) : Int)) (v := v) (b := byt ((m + 1 : Nat) : Int)) (by rw [hs]; omega)).2
  rw [show mputT (E := D) .int (.st 8) (chJ l m) ((m + 1 : Nat) : Int) (dgS (says ((m + 1 : Nat) : Int) v (byt ((m + 1 : Nat) : Int)))) = chJ l (m + 1) from by
    rw [chJ_y hv]
    refine (chPut_new hn).trans ?_
    unfold chE
    rw [e]] at g
  exact g
theorem jI_ok (h : jI l F m k) (hm : m ≤ 3 * F) : okK k := h.okK (hFi hF) (Nat.le_trans chJ_len (by omega)) (chJ_okC (by omega))
end
theorem jw_true : jw_c.ok Tryz.prog 3 := Con.proveH (c := jw_c) EF ZL (H := jwH) (call := fun a => callW Γa ΔM (jwH a) 4) (fun a => callW_ok Ka (jwH a) 4) fun (a : HL D jw_c.ts) (_ : jw_c.holds a) =>
  have hF := fN_ok a.1
  nmd (a := bring_c.ret (a.1, (2 : Int), ())) (fun q1 h1 =>
  have E1 : (IntKind.wrap .i64 ((1 : Int) + q1.1)) = (fN a.1 : Int) := by
    have e : q1.1 = brg a.1 2 := by rw [← h1]; rfl
    have := fN_int a.1
    rw [e, wI (by omega) (by omega)]; omega
  have E3 : (IntKind.wrap .i64 ((3 : Int) * (IntKind.wrap .i64 ((1 : Int) + q1.1)))) = 3 * (fN a.1 : Int) := by rw [E1, wI (by omega) (by omega)]
  have E4 : (IntKind.wrap .i64 ((IntKind.wrap .i64 ((3 : Int) * (IntKind.wrap .i64 ((1 : Int) + q1.1)))) + (1 : Int))) = 3 * (fN a.1 : Int) + 1 := by rw [E3, wI (by omega) (by omega)]
  nmd (a := bn_c.post () ()) (fun q2 _ =>
  And.intro (Pre.mk (by rw [E4, E1]; exact ⟨by omega, by omega, by omega⟩) : Pre (okF (IntKind.wrap .i64 ((1 : Int) + q1.1)) (IntKind.wrap .i64 ((IntKind.wrap .i64 ((3 : Int) * (IntKind.wrap .i64 ((1 : Int) + q1.1)))) + (1 : Int))))) (
  nmd (a := fr_c.post ((IntKind.wrap .i64 ((1 : Int) + q1.1)), (IntKind.wrap .i64 ((IntKind.wrap .i64 ((3 : Int) * (IntKind.wrap .i64 ((1 : Int) + q1.1)))) + (1 : Int))), ()) q2.2) (fun q3 h3 =>
  have G0 : jI a.2.1 (fN a.1) 0 (kP q3.2) := by
    rw [← h3]
    refine ⟨?_, rfl, rfl⟩
    show (crewS (IntKind.wrap .i64 ((1 : Int) + q1.1)), (IntKind.wrap .i64 ((IntKind.wrap .i64 ((3 : Int) * (IntKind.wrap .i64 ((1 : Int) + q1.1)))) + (1 : Int))), (1 : Int), (1 : Int), ()) = _
    rw [E4, E1]
  And.intro (⟨(q3.2, (0 : Int), ([] : List Int), (0 : Nat)), rfl, rfl, rfl, ⟨Nat.zero_le _, G0, rfl, by intro w hw; cases hw⟩⟩ : Ent (ja_h a.2.1 (fN a.1)) [SV.i .i64 (0 : Int), SV.own 0, SV.i .i64 (1 : Int)] [HB.arr .int 3 ([] : List Int)] (opnEs EF PS eP PS q3.2)) (
  fun (i : EL D PS × Int × List Int × Nat) (hI : i.2.2.2 ≤ 3 * fN a.1 ∧ jI a.2.1 (fN a.1) i.2.2.2 (kP i.1) ∧ i.2.2.1 = rcd a.2.1 (fN a.1) i.2.2.2 ∧ (∀ w ∈ rcd a.2.1 (fN a.1) i.2.2.2, w ≤ i.2.1)) =>
  bq (decide (((i.2.2.2 + 1 : Nat) : Int) ≤ (IntKind.wrap .i64 ((3 : Int) * (IntKind.wrap .i64 ((1 : Int) + q1.1)))))) (fun h5 =>
  have hm1 : i.2.2.2 + 1 ≤ 3 * fN a.1 := by have := of_decide_eq_true h5; rw [E3] at this; omega
  have EM : (IntKind.wrap .i64 (((i.2.2.2 + 1 : Nat) : Int) - (1 : Int))) = (i.2.2.2 : Int) := by rw [show ((i.2.2.2 + 1 : Nat) : Int) - (1 : Int) = (i.2.2.2 : Int) by omega, wI (by omega) (by omega)]
  brL fun _ : a.2.1.length ≤ maxL =>
  bq (decide ((IntKind.wrap .i64 (((i.2.2.2 + 1 : Nat) : Int) - (1 : Int))) < ((a.2.1.length : Nat) : Int))) (fun h7 =>
  have h7' : i.2.2.2 < a.2.1.length := by have := of_decide_eq_true h7; rw [EM] at this; omega
  brN (c := decide ((0 : Int) ≤ (IntKind.wrap .i64 (((i.2.2.2 + 1 : Nat) : Int) - (1 : Int)))) && decide ((IntKind.wrap .i64 (((i.2.2.2 + 1 : Nat) : Int) - (1 : Int))) < ((a.2.1.length : Nat) : Int))) (by rw [EM]; simp; omega) (
  nmd (a := bring_c.ret (a.2.1.getD (IntKind.wrap .i64 (((i.2.2.2 + 1 : Nat) : Int) - (1 : Int))).toNat (0 : Int), (10 : Int), ())) (fun q8 h8 =>
  have hv : @Eq Int q8.1 (vw a.2.1 i.2.2.2) := by
    have e : q8.1 = brg (a.2.1.getD (IntKind.wrap .i64 (((i.2.2.2 + 1 : Nat) : Int) - (1 : Int))).toNat (0 : Int)) 10 := by rw [← h8]; rfl
    rw [e, EM, Int.toNat_natCast]
    unfold vw
    rw [show decide (i.2.2.2 < a.2.1.length) = true by simpa using h7']; rfl
  have hv9 := vw_ok a.2.1 i.2.2.2
  bq (decide ((0 : Int) < q8.1)) (fun h9 =>
  have h9' : 0 < vw a.2.1 i.2.2.2 := by have := of_decide_eq_true h9; omega
  And.intro (Pre.mk (tell_nt (by omega) (by omega) (by omega) (by omega)) : Pre (isNt (tells (says ((i.2.2.2 + 1 : Nat) : Int) q8.1 (byt ((i.2.2.2 + 1 : Nat) : Int)))))) (
  nmd (a := tk_c.post (tells (says ((i.2.2.2 + 1 : Nat) : Int) q8.1 (byt ((i.2.2.2 + 1 : Nat) : Int))), ()) (kP i.1)) (fun q10 h10 =>
  have G : jI a.2.1 (fN a.1) (i.2.2.2 + 1) q10.2 := by rw [← h10]; exact jI_y hF hI.2.1 (by omega) h9' hv
  bq (decide ((IntKind.wrap .i64 ((1 : Int) + q1.1)) < ((i.2.2.2 + 1 : Nat) : Int))) (fun h11 =>
  have hF1 : fN a.1 ≤ i.2.2.2 := by have := of_decide_eq_true h11; rw [E1] at this; omega
  brN (c := Nat.ble ((i.2.2.1.length + [q8.1].length) * mulB Tryz.prog 3) maxL) (by
    have : i.2.2.1.length ≤ i.2.2.2 := by rw [hI.2.2.1]; exact rcd_len
    rw [mb3]; exact Nat.ble_eq_true_of_le (by show (i.2.2.1.length + 1) * _ ≤ _; unfold maxL; omega)) (
  (⟨((pK q10.2), (max i.2.1 q8.1), (i.2.2.1 ++ [q8.1]), i.2.2.2 + 1), by
      show [iv (max i.2.1 q8.1), SV.own 0, SV.i .i64 (IntKind.wrap .i64 (((i.2.2.2 + 1 : Nat) : Int) + (1 : Int)))] = [iv (max i.2.1 q8.1), SV.own 0, iv ((i.2.2.2 + 1 + 1 : Nat) : Int)]
      rw [wr1 (by omega)], rfl, rfl, ⟨hm1, G, ja_y hI.2.2.1 hF1 hv, ja_yw hI.2.2.2 hF1 hv⟩, by show 3 * fN a.1 - (i.2.2.2 + 1) < 3 * fN a.1 - i.2.2.2; omega⟩ : Rnd (ja_h a.2.1 (fN a.1)) i [iv (max i.2.1 q8.1), SV.own 0, SV.i .i64 (IntKind.wrap .i64 (((i.2.2.2 + 1 : Nat) : Int) + (1 : Int)))] [HB.arr .int 3 (i.2.2.1 ++ [q8.1])] (opnEs EF PS eP PS (pK q10.2))))) (fun h11 =>
  have hF1 : ¬ fN a.1 ≤ i.2.2.2 := by have := of_decide_eq_false h11; rw [E1] at this; omega
  (⟨((pK q10.2), i.2.1, i.2.2.1, i.2.2.2 + 1), by
      show [iv i.2.1, SV.own 0, SV.i .i64 (IntKind.wrap .i64 (((i.2.2.2 + 1 : Nat) : Int) + (1 : Int)))] = [iv i.2.1, SV.own 0, iv ((i.2.2.2 + 1 + 1 : Nat) : Int)]
      rw [wr1 (by omega)], rfl, rfl, ⟨hm1, G, ja_n hI.2.2.1 hF1, ja_nw hI.2.2.2 hF1⟩, by show 3 * fN a.1 - (i.2.2.2 + 1) < 3 * fN a.1 - i.2.2.2; omega⟩ : Rnd (ja_h a.2.1 (fN a.1)) i [iv i.2.1, SV.own 0, SV.i .i64 (IntKind.wrap .i64 (((i.2.2.2 + 1 : Nat) : Int) + (1 : Int)))] [HB.arr .int 3 i.2.2.1] (opnEs EF PS eP PS (pK q10.2))))))) (fun h9 =>
  have G : jI a.2.1 (fN a.1) (i.2.2.2 + 1) (kP i.1) := jI_n hF hI.2.1 (by have := of_decide_eq_false h9; omega)
  bq (decide ((IntKind.wrap .i64 ((1 : Int) + q1.1)) < ((i.2.2.2 + 1 : Nat) : Int))) (fun h11 =>
  have hF1 : fN a.1 ≤ i.2.2.2 := by have := of_decide_eq_true h11; rw [E1] at this; omega
  brN (c := Nat.ble ((i.2.2.1.length + [q8.1].length) * mulB Tryz.prog 3) maxL) (by
    have : i.2.2.1.length ≤ i.2.2.2 := by rw [hI.2.2.1]; exact rcd_len
    rw [mb3]; exact Nat.ble_eq_true_of_le (by show (i.2.2.1.length + 1) * _ ≤ _; unfold maxL; omega)) (
  (⟨(i.1, (max i.2.1 q8.1), (i.2.2.1 ++ [q8.1]), i.2.2.2 + 1), by
      show [iv (max i.2.1 q8.1), SV.own 0, SV.i .i64 (IntKind.wrap .i64 (((i.2.2.2 + 1 : Nat) : Int) + (1 : Int)))] = [iv (max i.2.1 q8.1), SV.own 0, iv ((i.2.2.2 + 1 + 1 : Nat) : Int)]
      rw [wr1 (by omega)], rfl, rfl, ⟨hm1, G, ja_y hI.2.2.1 hF1 hv, ja_yw hI.2.2.2 hF1 hv⟩, by show 3 * fN a.1 - (i.2.2.2 + 1) < 3 * fN a.1 - i.2.2.2; omega⟩ : Rnd (ja_h a.2.1 (fN a.1)) i [iv (max i.2.1 q8.1), SV.own 0, SV.i .i64 (IntKind.wrap .i64 (((i.2.2.2 + 1 : Nat) : Int) + (1 : Int)))] [HB.arr .int 3 (i.2.2.1 ++ [q8.1])] (opnEs EF PS eP PS i.1)))) (fun h11 =>
  have hF1 : ¬ fN a.1 ≤ i.2.2.2 := by have := of_decide_eq_false h11; rw [E1] at this; omega
  (⟨(i.1, i.2.1, i.2.2.1, i.2.2.2 + 1), by
      show [iv i.2.1, SV.own 0, SV.i .i64 (IntKind.wrap .i64 (((i.2.2.2 + 1 : Nat) : Int) + (1 : Int)))] = [iv i.2.1, SV.own 0, iv ((i.2.2.2 + 1 + 1 : Nat) : Int)]
      rw [wr1 (by omega)], rfl, rfl, ⟨hm1, G, ja_n hI.2.2.1 hF1, ja_nw hI.2.2.2 hF1⟩, by show 3 * fN a.1 - (i.2.2.2 + 1) < 3 * fN a.1 - i.2.2.2; omega⟩ : Rnd (ja_h a.2.1 (fN a.1)) i [iv i.2.1, SV.own 0, SV.i .i64 (IntKind.wrap .i64 (((i.2.2.2 + 1 : Nat) : Int) + (1 : Int)))] [HB.arr .int 3 i.2.2.1] (opnEs EF PS eP PS i.1))))))) (fun h7 =>
  have hv : (0 : Int) = vw a.2.1 i.2.2.2 := by
    have h7' : ¬ i.2.2.2 < a.2.1.length := by have := of_decide_eq_false h7; rw [EM] at this; omega
    unfold vw
    rw [show decide (i.2.2.2 < a.2.1.length) = false by simpa using h7']; rfl
  have G : jI a.2.1 (fN a.1) (i.2.2.2 + 1) (kP i.1) := jI_n hF hI.2.1 (by omega)
  bq (decide ((IntKind.wrap .i64 ((1 : Int) + q1.1)) < ((i.2.2.2 + 1 : Nat) : Int))) (fun h11 =>
  have hF1 : fN a.1 ≤ i.2.2.2 := by have := of_decide_eq_true h11; rw [E1] at this; omega
  brN (c := Nat.ble ((i.2.2.1.length + [(0 : Int)].length) * mulB Tryz.prog 3) maxL) (by
    have : i.2.2.1.length ≤ i.2.2.2 := by rw [hI.2.2.1]; exact rcd_len
    rw [mb3]; exact Nat.ble_eq_true_of_le (by show (i.2.2.1.length + 1) * _ ≤ _; unfold maxL; omega)) (
  (⟨(i.1, (max i.2.1 (0 : Int)), (i.2.2.1 ++ [(0 : Int)]), i.2.2.2 + 1), by
      show [iv (max i.2.1 (0 : Int)), SV.own 0, SV.i .i64 (IntKind.wrap .i64 (((i.2.2.2 + 1 : Nat) : Int) + (1 : Int)))] = [iv (max i.2.1 (0 : Int)), SV.own 0, iv ((i.2.2.2 + 1 + 1 : Nat) : Int)]
      rw [wr1 (by omega)], rfl, rfl, ⟨hm1, G, ja_y hI.2.2.1 hF1 hv, ja_yw hI.2.2.2 hF1 hv⟩, by show 3 * fN a.1 - (i.2.2.2 + 1) < 3 * fN a.1 - i.2.2.2; omega⟩ : Rnd (ja_h a.2.1 (fN a.1)) i [iv (max i.2.1 (0 : Int)), SV.own 0, SV.i .i64 (IntKind.wrap .i64 (((i.2.2.2 + 1 : Nat) : Int) + (1 : Int)))] [HB.arr .int 3 (i.2.2.1 ++ [(0 : Int)])] (opnEs EF PS eP PS i.1)))) (fun h11 =>
  have hF1 : ¬ fN a.1 ≤ i.2.2.2 := by have := of_decide_eq_false h11; rw [E1] at this; omega
  (⟨(i.1, i.2.1, i.2.2.1, i.2.2.2 + 1), by
      show [iv i.2.1, SV.own 0, SV.i .i64 (IntKind.wrap .i64 (((i.2.2.2 + 1 : Nat) : Int) + (1 : Int)))] = [iv i.2.1, SV.own 0, iv ((i.2.2.2 + 1 + 1 : Nat) : Int)]
      rw [wr1 (by omega)], rfl, rfl, ⟨hm1, G, ja_n hI.2.2.1 hF1, ja_nw hI.2.2.2 hF1⟩, by show 3 * fN a.1 - (i.2.2.2 + 1) < 3 * fN a.1 - i.2.2.2; omega⟩ : Rnd (ja_h a.2.1 (fN a.1)) i [iv i.2.1, SV.own 0, SV.i .i64 (IntKind.wrap .i64 (((i.2.2.2 + 1 : Nat) : Int) + (1 : Int)))] [HB.arr .int 3 i.2.2.1] (opnEs EF PS eP PS i.1))))) (fun h5 =>
  have hm : i.2.2.2 = 3 * fN a.1 := by have := of_decide_eq_false h5; rw [E3] at this; omega
  have hR : i.2.2.1 = rcd a.2.1 (fN a.1) (3 * fN a.1) := by rw [hI.2.2.1, hm]
  have hRl : i.2.2.1.length ≤ 6 := by rw [hR]; exact Nat.le_trans rcd_len (by omega)
  have G : jI a.2.1 (fN a.1) (3 * fN a.1) (kP i.1) := by rw [← hm]; exact hI.2.1
  nmd (a := bring_c.ret (a.2.2.1, (10 : Int), ())) (fun q6 h6 =>
  have hq : @LE.le Int _ 0 q6.1 := by
    have e : q6.1 = brg a.2.2.1 10 := by rw [← h6]; rfl
    rw [e]; exact (brg_ok (by decide) (by decide)).1
  And.intro (Pre.mk (jI_ok hF G (Nat.le_refl _)) : Pre (okK (kP i.1))) (
  nmd (a := (jn_c.post q6 (kP i.1)).1) (fun q7 h7 =>
  have J : (∃ r : Int, q7 = (r, true, ()) ∧ @LT.lt Int _ q6.1 r ∧ (@LE.le Int _ 0 q6.1 → ∃ w ∈ rcd a.2.1 (fN a.1) (3 * fN a.1), r ≤ w) ∧ ∀ w, 0 < w → fN a.1 < geq w (rcd a.2.1 (fN a.1) (3 * fN a.1)) → w ≤ r) ∨
      (q7 = (0, false, ()) ∧ ∀ w : Int, 0 < w → fN a.1 < geq w (rcd a.2.1 (fN a.1) (3 * fN a.1)) → @LE.le Int _ w q6.1) := by
    have e : q7 = jnP (KZ (fN a.1 : Int) (3 * (fN a.1 : Int) + 1) (chJ a.2.1 (3 * fN a.1)) []) q6.1 := by rw [← h7]; exact G.jn q6.1
    rw [e]; exact jn_law hF q6.1
  bq (q7.2.1) (fun h8 =>
  have J : ∃ r : Int, @Eq Int q7.1 r ∧ @LT.lt Int _ q6.1 r ∧ (∃ w ∈ rcd a.2.1 (fN a.1) (3 * fN a.1), r ≤ w) ∧ ∀ w, 0 < w → fN a.1 < geq w (rcd a.2.1 (fN a.1) (3 * fN a.1)) → w ≤ r := by
    rcases J with ⟨r, e, j1, j2, j3⟩ | ⟨e, _⟩
    · exact ⟨r, by rw [e], j1, j2 hq, j3⟩
    · rw [e] at h8; exact absurd h8 Bool.false_ne_true
  bq (decide (@LE.le Int _ q7.1 q6.1)) (fun h9 => (by
    obtain ⟨r, e, j1, -, -⟩ := J
    have := of_decide_eq_true h9
    omega : some (false, ()) = some (true, ()))) (fun _ =>
  bq (decide (@LT.lt Int _ i.2.1 q7.1)) (fun h10 => (by
    obtain ⟨r, e, -, ⟨w, j2, j3⟩, -⟩ := J
    have := of_decide_eq_true h10
    rw [← hm] at j2
    have := hI.2.2.2 w j2
    omega : some (false, ()) = some (true, ()))) (fun _ =>
  And.intro (⟨(0 : Nat), rfl, rfl, rfl, Nat.zero_le _⟩ : Ent (jb_h i.2.2.1.length) [SV.i .i64 (0 : Int)] [] []) (
  fun (j : Nat) (hJ : j ≤ i.2.2.1.length) =>
  bq (decide ((j : Int) < ((i.2.2.1.length : Nat) : Int))) (fun h12 =>
  have hj : j < i.2.2.1.length := by have := of_decide_eq_true h12; omega
  And.intro (⟨((0 : Nat), (0 : Nat)), rfl, rfl, rfl, ⟨Nat.zero_le _, rfl⟩⟩ : Ent (jc_h i.2.2.1 (i.2.2.1.getD (j : Int).toNat (0 : Int))) [SV.i .i64 (0 : Int), SV.i .i64 (0 : Int)] [] []) (
  fun (c : Nat × Nat) (hC : c.2 ≤ i.2.2.1.length ∧ c.1 = geq (i.2.2.1.getD (j : Int).toNat (0 : Int)) (i.2.2.1.take c.2)) =>
  have hc1 : c.1 ≤ i.2.2.1.length := by rw [hC.2]; exact Nat.le_trans List.countP_le_length (by rw [List.length_take]; omega)
  bq (decide ((c.2 : Int) < ((i.2.2.1.length : Nat) : Int))) (fun h14 =>
  have hc : c.2 < i.2.2.1.length := by have := of_decide_eq_true h14; omega
  brN (c := decide ((0 : Int) ≤ (c.2 : Int)) && decide ((c.2 : Int) < ((i.2.2.1.length : Nat) : Int))) (by simp; omega) (
  brN (c := decide ((0 : Int) ≤ (j : Int)) && decide ((j : Int) < ((i.2.2.1.length : Nat) : Int))) (by simp; omega) (
  bq (decide ((i.2.2.1.getD (j : Int).toNat (0 : Int)) ≤ i.2.2.1.getD (c.2 : Int).toNat (0 : Int))) (fun h15 =>
  (⟨(c.1 + 1, c.2 + 1), by
      show [SV.i .i64 (IntKind.wrap .i64 ((c.1 : Int) + 1)), SV.i .i64 (IntKind.wrap .i64 ((c.2 : Int) + 1))] = [iv ((c.1 + 1 : Nat) : Int), iv ((c.2 + 1 : Nat) : Int)]
      rw [wr1 (by omega), wr1 (by omega)], rfl, rfl, ⟨hc, jc_y hc hC.2 h15⟩, by show i.2.2.1.length - (c.2 + 1) < i.2.2.1.length - c.2; omega⟩ : Rnd (jc_h i.2.2.1 (i.2.2.1.getD (j : Int).toNat (0 : Int))) c [SV.i .i64 (IntKind.wrap .i64 ((c.1 : Int) + 1)), SV.i .i64 (IntKind.wrap .i64 ((c.2 : Int) + 1))] [] [])) (fun h15 =>
  (⟨(c.1, c.2 + 1), by
      show [SV.i .i64 ((c.1 : Int)), SV.i .i64 (IntKind.wrap .i64 ((c.2 : Int) + 1))] = [iv ((c.1 : Nat) : Int), iv ((c.2 + 1 : Nat) : Int)]
      rw [wr1 (by omega)], rfl, rfl, ⟨hc, jc_n hc hC.2 h15⟩, by show i.2.2.1.length - (c.2 + 1) < i.2.2.1.length - c.2; omega⟩ : Rnd (jc_h i.2.2.1 (i.2.2.1.getD (j : Int).toNat (0 : Int))) c [SV.i .i64 ((c.1 : Int)), SV.i .i64 (IntKind.wrap .i64 ((c.2 : Int) + 1))] [] []))))) (fun h14 =>
  have hg : c.1 = geq (i.2.2.1.getD (j : Int).toNat (0 : Int)) i.2.2.1 := by
    have : c.2 = i.2.2.1.length := by have := of_decide_eq_false h14; omega
    rw [hC.2, this, List.take_length]
  bq (decide ((IntKind.wrap .i64 ((1 : Int) + q1.1)) < (c.1 : Int))) (fun h15 =>
  brN (c := decide ((0 : Int) ≤ (j : Int)) && decide ((j : Int) < ((i.2.2.1.length : Nat) : Int))) (by simp; omega) (
  bq (decide (@LT.lt Int _ q6.1 (i.2.2.1.getD (j : Int).toNat (0 : Int)))) (fun h16 =>
  have hX : 0 < (i.2.2.1.getD (j : Int).toNat (0 : Int)) ∧ fN a.1 < geq (i.2.2.1.getD (j : Int).toNat (0 : Int)) (rcd a.2.1 (fN a.1) (3 * fN a.1)) := by
    have g1 := of_decide_eq_true h16
    have g2 := of_decide_eq_true h15
    rw [E1] at g2
    exact ⟨by omega, by rw [← hR, ← hg]; omega⟩
  brN (c := decide ((0 : Int) ≤ (j : Int)) && decide ((j : Int) < ((i.2.2.1.length : Nat) : Int))) (by simp; omega) (
  bq (decide (@LT.lt Int _ q7.1 (i.2.2.1.getD (j : Int).toNat (0 : Int)))) (fun h17 => (by
    obtain ⟨r, e, -, -, j4⟩ := J
    have := j4 _ hX.1 hX.2
    have := of_decide_eq_true h17
    omega : some (false, ()) = some (true, ()))) (fun _ => (⟨j + 1, by
      show [SV.i .i64 (IntKind.wrap .i64 ((j : Int) + 1))] = [iv ((j + 1 : Nat) : Int)]
      rw [wr1 (by omega)], rfl, rfl, (show j + 1 ≤ i.2.2.1.length from hj), by show i.2.2.1.length - (j + 1) < i.2.2.1.length - j; omega⟩ : Rnd (jb_h i.2.2.1.length) j [SV.i .i64 (IntKind.wrap .i64 ((j : Int) + 1))] [] [])))) (fun _ => (⟨j + 1, by
      show [SV.i .i64 (IntKind.wrap .i64 ((j : Int) + 1))] = [iv ((j + 1 : Nat) : Int)]
      rw [wr1 (by omega)], rfl, rfl, (show j + 1 ≤ i.2.2.1.length from hj), by show i.2.2.1.length - (j + 1) < i.2.2.1.length - j; omega⟩ : Rnd (jb_h i.2.2.1.length) j [SV.i .i64 (IntKind.wrap .i64 ((j : Int) + 1))] [] [])))) (fun _ => (⟨j + 1, by
      show [SV.i .i64 (IntKind.wrap .i64 ((j : Int) + 1))] = [iv ((j + 1 : Nat) : Int)]
      rw [wr1 (by omega)], rfl, rfl, (show j + 1 ≤ i.2.2.1.length from hj), by show i.2.2.1.length - (j + 1) < i.2.2.1.length - j; omega⟩ : Rnd (jb_h i.2.2.1.length) j [SV.i .i64 (IntKind.wrap .i64 ((j : Int) + 1))] [] []))))) (fun _ =>
  (rfl : some (true, ()) = some (true, ()))))))) (fun h8 =>
  have J : q7.1 = 0 ∧ ∀ w : Int, 0 < w → fN a.1 < geq w (rcd a.2.1 (fN a.1) (3 * fN a.1)) → @LE.le Int _ w q6.1 := by
    rcases J with ⟨r, e, -⟩ | ⟨e, j⟩
    · rw [e] at h8; exact absurd h8.symm Bool.false_ne_true
    · exact ⟨by rw [e], j⟩
  bq (q7.1 != (0 : Int)) (fun h9 => (by rw [J.1] at h9; exact absurd h9 Bool.false_ne_true : some (false, ()) = some (true, ()))) (fun _ =>
  And.intro (⟨(0 : Nat), rfl, rfl, rfl, Nat.zero_le _⟩ : Ent (jb_h i.2.2.1.length) [SV.i .i64 (0 : Int)] [] []) (
  fun (j : Nat) (hJ : j ≤ i.2.2.1.length) =>
  bq (decide ((j : Int) < ((i.2.2.1.length : Nat) : Int))) (fun h12 =>
  have hj : j < i.2.2.1.length := by have := of_decide_eq_true h12; omega
  And.intro (⟨((0 : Nat), (0 : Nat)), rfl, rfl, rfl, ⟨Nat.zero_le _, rfl⟩⟩ : Ent (jc_h i.2.2.1 (i.2.2.1.getD (j : Int).toNat (0 : Int))) [SV.i .i64 (0 : Int), SV.i .i64 (0 : Int)] [] []) (
  fun (c : Nat × Nat) (hC : c.2 ≤ i.2.2.1.length ∧ c.1 = geq (i.2.2.1.getD (j : Int).toNat (0 : Int)) (i.2.2.1.take c.2)) =>
  have hc1 : c.1 ≤ i.2.2.1.length := by rw [hC.2]; exact Nat.le_trans List.countP_le_length (by rw [List.length_take]; omega)
  bq (decide ((c.2 : Int) < ((i.2.2.1.length : Nat) : Int))) (fun h14 =>
  have hc : c.2 < i.2.2.1.length := by have := of_decide_eq_true h14; omega
  brN (c := decide ((0 : Int) ≤ (c.2 : Int)) && decide ((c.2 : Int) < ((i.2.2.1.length : Nat) : Int))) (by simp; omega) (
  brN (c := decide ((0 : Int) ≤ (j : Int)) && decide ((j : Int) < ((i.2.2.1.length : Nat) : Int))) (by simp; omega) (
  bq (decide ((i.2.2.1.getD (j : Int).toNat (0 : Int)) ≤ i.2.2.1.getD (c.2 : Int).toNat (0 : Int))) (fun h15 =>
  (⟨(c.1 + 1, c.2 + 1), by
      show [SV.i .i64 (IntKind.wrap .i64 ((c.1 : Int) + 1)), SV.i .i64 (IntKind.wrap .i64 ((c.2 : Int) + 1))] = [iv ((c.1 + 1 : Nat) : Int), iv ((c.2 + 1 : Nat) : Int)]
      rw [wr1 (by omega), wr1 (by omega)], rfl, rfl, ⟨hc, jc_y hc hC.2 h15⟩, by show i.2.2.1.length - (c.2 + 1) < i.2.2.1.length - c.2; omega⟩ : Rnd (jc_h i.2.2.1 (i.2.2.1.getD (j : Int).toNat (0 : Int))) c [SV.i .i64 (IntKind.wrap .i64 ((c.1 : Int) + 1)), SV.i .i64 (IntKind.wrap .i64 ((c.2 : Int) + 1))] [] [])) (fun h15 =>
  (⟨(c.1, c.2 + 1), by
      show [SV.i .i64 ((c.1 : Int)), SV.i .i64 (IntKind.wrap .i64 ((c.2 : Int) + 1))] = [iv ((c.1 : Nat) : Int), iv ((c.2 + 1 : Nat) : Int)]
      rw [wr1 (by omega)], rfl, rfl, ⟨hc, jc_n hc hC.2 h15⟩, by show i.2.2.1.length - (c.2 + 1) < i.2.2.1.length - c.2; omega⟩ : Rnd (jc_h i.2.2.1 (i.2.2.1.getD (j : Int).toNat (0 : Int))) c [SV.i .i64 ((c.1 : Int)), SV.i .i64 (IntKind.wrap .i64 ((c.2 : Int) + 1))] [] []))))) (fun h14 =>
  have hg : c.1 = geq (i.2.2.1.getD (j : Int).toNat (0 : Int)) i.2.2.1 := by
    have : c.2 = i.2.2.1.length := by have := of_decide_eq_false h14; omega
    rw [hC.2, this, List.take_length]
  bq (decide ((IntKind.wrap .i64 ((1 : Int) + q1.1)) < (c.1 : Int))) (fun h15 =>
  brN (c := decide ((0 : Int) ≤ (j : Int)) && decide ((j : Int) < ((i.2.2.1.length : Nat) : Int))) (by simp; omega) (
  bq (decide (@LT.lt Int _ q6.1 (i.2.2.1.getD (j : Int).toNat (0 : Int)))) (fun h16 =>
  have hX : 0 < (i.2.2.1.getD (j : Int).toNat (0 : Int)) ∧ fN a.1 < geq (i.2.2.1.getD (j : Int).toNat (0 : Int)) (rcd a.2.1 (fN a.1) (3 * fN a.1)) := by
    have g1 := of_decide_eq_true h16
    have g2 := of_decide_eq_true h15
    rw [E1] at g2
    exact ⟨by omega, by rw [← hR, ← hg]; omega⟩
  (by
    have := J.2 _ hX.1 hX.2
    have := of_decide_eq_true h16
    omega : some (false, ()) = some (true, ()))) (fun _ => (⟨j + 1, by
      show [SV.i .i64 (IntKind.wrap .i64 ((j : Int) + 1))] = [iv ((j + 1 : Nat) : Int)]
      rw [wr1 (by omega)], rfl, rfl, (show j + 1 ≤ i.2.2.1.length from hj), by show i.2.2.1.length - (j + 1) < i.2.2.1.length - j; omega⟩ : Rnd (jb_h i.2.2.1.length) j [SV.i .i64 (IntKind.wrap .i64 ((j : Int) + 1))] [] [])))) (fun _ => (⟨j + 1, by
      show [SV.i .i64 (IntKind.wrap .i64 ((j : Int) + 1))] = [iv ((j + 1 : Nat) : Int)]
      rw [wr1 (by omega)], rfl, rfl, (show j + 1 ≤ i.2.2.1.length from hj), by show i.2.2.1.length - (j + 1) < i.2.2.1.length - j; omega⟩ : Rnd (jb_h i.2.2.1.length) j [SV.i .i64 (IntKind.wrap .i64 ((j : Int) + 1))] [] []))))) (fun _ =>
  (rfl : some (true, ()) = some (true, ())))))))))))))))
end Go.Proofs.YtpbcabanpppfoaaGreat
