/- Change: ChangeComes is true, walked by reckoning. No condition. -/
import Derived.Test.YtpbcabanpppfoaaGreatCzDc
set_option linter.all false
namespace Go.Proofs.YtpbcabanpppfoaaGreat
open Go Go.Gx Go.Vz
set_option maxRecDepth 100000
set_option maxHeartbeats 0
theorem mb46 : mulB Tryz.prog 46 = 416 := by kernel_rfl
section
variable {b : Int → UInt8} {f : Int} {l : List KD} {k : KD} {n : Note} {i : Nat}
theorem Gd.nt (h : Gd b f n) (hf : f = 1 ∨ f = 2) : isNt n := by
  rcases h with ⟨y, hy, rfl⟩ | ⟨y, z, hy, hz, hyz, rfl⟩
  · exact tell_nt (by omega) (by omega) (by decide) (by decide)
  · show isNt (ackNt y 3 z _)
    have h1 : 1 ≤ y ∧ y ≤ 28 := by omega
    have h2 : 1 ≤ z ∧ z ≤ 28 := by rcases hz with rfl | hz <;> omega
    obtain ⟨u, rfl⟩ := pos_nat h1.1
    obtain ⟨v, rfl⟩ := pos_nat h2.1
    exact ackNt_nt u v 2 _ (by omega) (by omega) (by omega) (by omega)
theorem CK.few {j : Int} (c : CK b f j k) (hf : f = 1 ∨ f = 2) : (kCh k).length ≤ 7 := by
  have hs : ∀ x ∈ (kCh k).map fun p : Int × Said => p.1, x ∈ ([1, 2, 3, 4, 5, 6, 7] : List Int) := fun x hx => by
    obtain ⟨s, hs⟩ := @mget_key Int Said (Ty.dec D .int) (kCh k) x hx
    have := (c.ch x s hs).1
    simp only [List.mem_cons, List.not_mem_nil, or_false]
    omega
  obtain ⟨r, hr⟩ := sub_perm (f := Int.toNat) (a := (kCh k).map fun p : Int × Said => p.1) (by
    have hp : ∀ x ∈ (kCh k).map fun p : Int × Said => p.1, 1 ≤ x := fun x hx => by
      have := hs x hx
      simp only [List.mem_cons, List.not_mem_nil, or_false] at this
      omega
    refine List.pairwise_map.2 (List.Pairwise.imp_of_mem (fun {a b} ha hb hab => ?_) c.nd)
    have := hp a ha; have := hp b hb
    omega) hs
  have := hr.length_eq
  rw [List.length_append, List.length_map] at this
  simp at this
  omega
theorem CK.okK {j : Int} (c : CK b f j k) (hf : f = 1 ∨ f = 2) : okK k := by
  refine c.fct.okK hf (Nat.le_trans (c.few hf) (by decide)) fun p hp => ?_
  obtain ⟨h1, h2⟩ := c.ch _ _ (sdO_of_mem c.nd hp)
  rw [h2]
  exact ⟨⟨by show 1 ≤ _; omega, by show 0 ≤ _; omega, by show 1 ≤ _; omega⟩, by omega, by omega⟩
theorem FI.okK (h : FI b f l) (hf : f = 1 ∨ f = 2) (hi : l[i]? = some k) (Q : KD) : okK (wb k Q) := ((h.ck i k hi).wb Q).okK hf
theorem FI.okK0 (h : FI b f l) (hf : f = 1 ∨ f = 2) (hi : l[i]? = some k) : Go.Proofs.YtpbcabanpppfoaaGreat.okK k := (h.ck i k hi).okK hf
theorem FI.map (h : FI b f l) (Q : KD) (hq : ∀ x, (∀ (j : Nat) (k : KD), l[j]? = some k → inB k x) → inB Q x) : FI b f (l.map fun k => wb k Q) :=
  h.ink (by rw [List.length_map]) Q hq fun j k' hj => by
    rw [List.getElem?_map] at hj
    obtain ⟨k, h1, h2⟩ := Option.map_eq_some_iff.1 hj
    exact ⟨k, h1, h2.symm⟩
theorem FI.vouchW (h : FI b f l) (hf : f = 1 ∨ f = 2) (Q : KD) (hq : ∀ x, (∀ (j : Nat) (k : KD), l[j]? = some k → inB k x) → inB Q x) {X : Change} (hX : ∃ (j : Nat) (k : KD), l[j]? = some k ∧ X ∈ rdyL k 3 (rdyK k)) (hi : l[i]? = some k) : vchB (wb k Q) X = true ∨ kMo (kInk (wb k Q) (chBytes X)) ≠ [] := by
  obtain ⟨j, k0, h1, h2⟩ := hX
  have h2 : X ∈ rdyL (wb k0 Q) 3 (rdyK (wb k0 Q)) := h2
  exact (h.map Q hq).vouch hf (by rw [List.getElem?_map, h1]; rfl) h2 (by rw [List.getElem?_map, hi]; rfl)
theorem FI.isW (h : FI b f l) (hf : f = 1 ∨ f = 2) {X : Change} (hX : ∃ (j : Nat) (k : KD), l[j]? = some k ∧ X ∈ rdyL k 3 (rdyK k)) : Go.Proofs.YtpbcabanpppfoaaGreat.isW X ∧ 1 ≤ X.node ∧ X.node ≤ 3 * f + 1 := by
  obtain ⟨j, k0, h1, h2⟩ := hX
  obtain ⟨x, hx, rfl, -⟩ := h.what h1 h2
  have hx : 1 ≤ x ∧ x ≤ 3 * f + 1 := by rcases hx with rfl | hx <;> omega
  exact ⟨saysW hx.1 (by omega) (by decide) (by decide), hx⟩
theorem FI.vchP (h : FI b f l) (hf : f = 1 ∨ f = 2) (hi : l[i]? = some k) (Q : KD) {X : Change} (hX : 1 ≤ X.node ∧ X.node ≤ 3 * f + 1) : vch_c.post (X, ()) (wb k Q) = ((vchB (wb k Q) X, ()), kInk (wb k Q) (chBytes X)) := by
  show Go.Proofs.YtpbcabanpppfoaaGreat.vchP (wb k Q) X = _
  unfold Go.Proofs.YtpbcabanpppfoaaGreat.vchP
  rw [((h.ck i k hi).wb Q).fct.cr, hasB_ok hf hX.1 hX.2]; rfl
theorem lv_first {x : Int} (h : Fct f x [] [] k) : (lv_c.post (kc b x x, ()) k).1 = ([tells (kc b x x)], 0, ()) ∧ Fct f x [(x, dgS (kc b x x))] [] (lv_c.post (kc b x x, ()) k).2 ∧ ∀ c, inB k c → inB (lv_c.post (kc b x x, ()) k).2 c := by
  have e : lv_c.post (kc b x x, ()) k = (([tellK k (kc b x x)], 0, ()), kChs (kInk k (chBytes (kc b x x))) (mputT (E := D) .int (.st 8) (kCh k) (kSf k) (dgS (kc b x x)))) := by
    show lvP k (kc b x x) = _
    unfold lvP
    rw [h.sf, h.ch]
    show (bif x != x then _ else bif decide ((3 : Int) ≤ 0) then _ else _) = _
    rw [show (x != x) = false by simp]
    rfl
  rw [e]
  refine ⟨?_, ⟨h.hd, ?_, h.ak⟩, fun c hc => inB_keep hc _⟩
  · show ([tellK k (kc b x x)], 0, ()) = _
    unfold tellK
    rw [h.sf, h.gr, h.ep]; rfl
  · show mputT (E := D) .int (.st 8) (kCh k) (kSf k) (dgS (kc b x x)) = _
    rw [h.ch, h.sf]; rfl
theorem tk_first {x : Int} (h : Fct f x [(x, dgS (kc b x x))] [] k) (hf : f = 1 ∨ f = 2) (hx : In f x) : (tk_c.post (tells (kc b x 1), ()) k).1 = ([ackW x (kc b x 1)], 0, ()) ∧ Fct f x [(x, dgS (kc b x x)), (1, dgS (kc b x 1))] [] (tk_c.post (tells (kc b x 1), ()) k).2 ∧
    (∀ c, inB k c → inB (tk_c.post (tells (kc b x 1), ()) k).2 c) ∧ inB (tk_c.post (tells (kc b x 1), ()) k).2 (chBytes (kc b x 1)) := by
  have e : tk_c.post (tells (kc b x 1), ()) k = takeC k (tells (kc b x 1)) := take_tell h hf (by decide) (by omega) (by omega)
  have hne : (1 : Int) ∉ [(x, dgS (kc b x x))].map fun p : Int × Said => p.1 := by
    rw [List.map_cons, List.map_nil, List.mem_singleton]; omega
  have h0 : (sd [(x, dgS (kc b x x))] 1).change.view = 0 := by
    unfold sd; rw [sdO_none hne]; rfl
  obtain ⟨g1, g2⟩ := takeC_new h (b := kb b x 1) (v := 3) (n := 1) (by rw [h0]; decide)
  rw [e]
  have hp : mputT (E := D) .int (.st 8) [(x, dgS (kc b x x))] 1 (dgS (kc b x 1)) = [(x, dgS (kc b x x)), (1, dgS (kc b x 1))] := chPut_new hne
  refine ⟨g1, by rw [← hp]; exact g2, fun c hc => ?_, ?_⟩
  · rcases takeC_2 (k := k) (tells (kc b x 1)) with g | g
    · rw [g]; exact inB_keep hc _
    · rw [g]; exact inB_keep hc _
  · rcases takeC_2 (k := k) (tells (kc b x 1)) with g | g
    · rw [g]; exact inB_ink k _
    · rw [g]; exact inB_ink k _
theorem getD_app {α : Type} {s t : List α} {i : Nat} {d : α} (h : i < s.length) : (s ++ t).getD (i : Int).toNat d = s.getD (i : Int).toNat d := by
  rw [Int.toNat_natCast, List.getD_eq_getElem?_getD, List.getD_eq_getElem?_getD, List.getElem?_append_left h]
theorem getE_app {α : Type} {s t : List α} {i : Nat} {x : α} (h : s[i]? = some x) : (s ++ t)[i]? = some x := by
  rw [List.getElem?_append_left (List.getElem?_eq_some_iff.1 h).1, h]
theorem ltB {i n : Nat} (h : i < n) : (decide ((0 : Int) ≤ (i : Int)) && decide ((i : Int) < ((n : Nat) : Int))) = true := by simp; omega
end
theorem cw3_true : (cw_p 0).ok Tryz.prog 6 := Con.proveH (c := cw_p 0) EF ZL (H := cwH3) (call := fun a => callsG EF ZL ΛL (Γc1 0) Δc1 (cwH3 a) 4) (fun a => callsG_ok Ll (Kc1 0) 4) fun (a : HL D (cw_p 0).ts) (hp : (cw_p 0).holds a) =>
  have hp : brg a.1 2 = 0 := hp
  have hf : (1 : Int) = 1 ∨ (1 : Int) = 2 := .inl rfl
  And.intro (Pre.mk hp : Pre (brg a.1 2 = (0 : Int))) (
  nmd (a := bn_c.post () ()) (fun q0 _ =>
  And.intro (Pre.mk ⟨hf, by decide, by decide⟩ : Pre (okF 1 2)) (
  nmd (a := fr_c.post ((1 : Int), (2 : Int), ()) q0.2) (fun qa0 ha0 =>
  have Fa0 : Fct 1 2 [] [] (kP qa0.2) := by rw [← ha0]; exact ⟨rfl, rfl, rfl⟩
  And.intro (Pre.mk (saysW (by decide) (by decide) (by decide) (by decide)) : Pre (isW (kc (bL a.2.1) 2 2))) (
  nmd (a := lv_c.post (kc (bL a.2.1) 2 2, ()) (kP qa0.2)) (fun qb0 hb0 =>
  have Lb0 : qb0.1 = ([tells (kc (bL a.2.1) 2 2)], 0, ()) ∧ Fct 1 2 [(2, dgS (kc (bL a.2.1) 2 2))] [] qb0.2 ∧ ∀ c, inB (kP qa0.2) c → inB qb0.2 c := by rw [← hb0]; exact lv_first Fa0
  bq (qb0.1.2.1 != (0 : Int)) (fun h => (by rw [Lb0.1] at h; exact absurd h Bool.false_ne_true : some (false, ()) = some (true, ()))) (fun _ =>
  brN (c := Nat.ble ((([] : List Note).length + qb0.1.1.length) * mulB Tryz.prog 46) maxL) (by rw [mb46, Lb0.1]; exact Nat.ble_eq_true_of_le (by unfold maxL; simp only [List.length_append, List.length_cons, List.length_nil]; omega)) (
  brL fun _ : a.2.1.length ≤ maxL =>
  And.intro (bq (decide ((0 : Int) < ((a.2.1.length : Nat) : Int))) (fun h =>
    brN (c := decide ((0 : Int) ≤ (0 : Int)) && decide ((0 : Int) < ((a.2.1.length : Nat) : Int))) (by rw [h]; rfl) (
    (⟨(), by
      show [SV.u8 (a.2.1.getD (0 : Int).toNat 0)] = [SV.u8 (lie a.2.1 0)]
      unfold lie
      rw [show decide (0 < a.2.1.length) = true by have := of_decide_eq_true h; exact decide_eq_true (by omega)]; rfl, rfl, rfl, trivial⟩ : Ent (cj_h (lie a.2.1 0)) [SV.u8 (a.2.1.getD (0 : Int).toNat 0)] [] []))) (fun h =>
    (⟨(), by
      show [SV.u8 (0 : UInt8)] = [SV.u8 (lie a.2.1 0)]
      unfold lie
      rw [show decide (0 < a.2.1.length) = false by have := of_decide_eq_false h; exact decide_eq_false (by omega)]; rfl, rfl, rfl, trivial⟩ : Ent (cj_h (lie a.2.1 0)) [SV.u8 (0 : UInt8)] [] []))) (
  fun (_ : Unit) (_ : True) =>
  And.intro (Pre.mk (tell_nt (by decide) (by decide) (by decide) (by decide)) : Pre (isNt (tells (kc (bL a.2.1) 2 1)))) (
  nmd (a := tk_c.post (tells (kc (bL a.2.1) 2 1), ()) qb0.2) (fun qc0 hc0 =>
  have Tc0 : qc0.1 = ([ackW 2 (kc (bL a.2.1) 2 1)], 0, ()) ∧ Fct 1 2 [(2, dgS (kc (bL a.2.1) 2 2)), (1, dgS (kc (bL a.2.1) 2 1))] [] qc0.2 ∧ (∀ c, inB qb0.2 c → inB qc0.2 c) ∧ inB qc0.2 (chBytes (kc (bL a.2.1) 2 1)) := by rw [← hc0]; exact tk_first Lb0.2.1 hf ⟨by decide, by decide⟩
  have I0_0 : inB qc0.2 (chBytes (kc (bL a.2.1) 2 1)) := Tc0.2.2.2
  bq (qc0.1.2.1 != (0 : Int)) (fun h => (by rw [Tc0.1] at h; exact absurd h Bool.false_ne_true : some (false, ()) = some (true, ()))) (fun _ =>
  brN (c := Nat.ble (((([] : List Note) ++ qb0.1.1).length + qc0.1.1.length) * mulB Tryz.prog 46) maxL) (by rw [mb46, Lb0.1, Tc0.1]; exact Nat.ble_eq_true_of_le (by unfold maxL; simp only [List.length_append, List.length_cons, List.length_nil]; omega)) (
  And.intro (Pre.mk ⟨hf, by decide, by decide⟩ : Pre (okF 1 3)) (
  nmd (a := fr_c.post ((1 : Int), (3 : Int), ()) ((qc0.2.2.1, qc0.2.2.2.2.2) : EL D BS)) (fun qa1 ha1 =>
  have Fa1 : Fct 1 3 [] [] (kP qa1.2) := by rw [← ha1]; exact ⟨rfl, rfl, rfl⟩
  And.intro (Pre.mk (saysW (by decide) (by decide) (by decide) (by decide)) : Pre (isW (kc (bL a.2.1) 3 3))) (
  nmd (a := lv_c.post (kc (bL a.2.1) 3 3, ()) (kP qa1.2)) (fun qb1 hb1 =>
  have Lb1 : qb1.1 = ([tells (kc (bL a.2.1) 3 3)], 0, ()) ∧ Fct 1 3 [(3, dgS (kc (bL a.2.1) 3 3))] [] qb1.2 ∧ ∀ c, inB (kP qa1.2) c → inB qb1.2 c := by rw [← hb1]; exact lv_first Fa1
  bq (qb1.1.2.1 != (0 : Int)) (fun h => (by rw [Lb1.1] at h; exact absurd h Bool.false_ne_true : some (false, ()) = some (true, ()))) (fun _ =>
  brN (c := Nat.ble ((((([] : List Note) ++ qb0.1.1) ++ qc0.1.1).length + qb1.1.1.length) * mulB Tryz.prog 46) maxL) (by rw [mb46, Lb0.1, Tc0.1, Lb1.1]; exact Nat.ble_eq_true_of_le (by unfold maxL; simp only [List.length_append, List.length_cons, List.length_nil]; omega)) (
  brL fun _ : a.2.1.length ≤ maxL =>
  And.intro (bq (decide ((1 : Int) < ((a.2.1.length : Nat) : Int))) (fun h =>
    brN (c := decide ((0 : Int) ≤ (1 : Int)) && decide ((1 : Int) < ((a.2.1.length : Nat) : Int))) (by rw [h]; rfl) (
    (⟨(), by
      show [SV.u8 (a.2.1.getD (1 : Int).toNat 0)] = [SV.u8 (lie a.2.1 1)]
      unfold lie
      rw [show decide (1 < a.2.1.length) = true by have := of_decide_eq_true h; exact decide_eq_true (by omega)]; rfl, rfl, rfl, trivial⟩ : Ent (cj_h (lie a.2.1 1)) [SV.u8 (a.2.1.getD (1 : Int).toNat 0)] [] []))) (fun h =>
    (⟨(), by
      show [SV.u8 (0 : UInt8)] = [SV.u8 (lie a.2.1 1)]
      unfold lie
      rw [show decide (1 < a.2.1.length) = false by have := of_decide_eq_false h; exact decide_eq_false (by omega)]; rfl, rfl, rfl, trivial⟩ : Ent (cj_h (lie a.2.1 1)) [SV.u8 (0 : UInt8)] [] []))) (
  fun (_ : Unit) (_ : True) =>
  And.intro (Pre.mk (tell_nt (by decide) (by decide) (by decide) (by decide)) : Pre (isNt (tells (kc (bL a.2.1) 3 1)))) (
  nmd (a := tk_c.post (tells (kc (bL a.2.1) 3 1), ()) qb1.2) (fun qc1 hc1 =>
  have Tc1 : qc1.1 = ([ackW 3 (kc (bL a.2.1) 3 1)], 0, ()) ∧ Fct 1 3 [(3, dgS (kc (bL a.2.1) 3 3)), (1, dgS (kc (bL a.2.1) 3 1))] [] qc1.2 ∧ (∀ c, inB qb1.2 c → inB qc1.2 c) ∧ inB qc1.2 (chBytes (kc (bL a.2.1) 3 1)) := by rw [← hc1]; exact tk_first Lb1.2.1 hf ⟨by decide, by decide⟩
  have I1_0 : inB qc1.2 (chBytes (kc (bL a.2.1) 2 1)) := Tc1.2.2.1 _ (Lb1.2.2 _ (by rw [← ha1]; exact I0_0))
  have I1_1 : inB qc1.2 (chBytes (kc (bL a.2.1) 3 1)) := Tc1.2.2.2
  bq (qc1.1.2.1 != (0 : Int)) (fun h => (by rw [Tc1.1] at h; exact absurd h Bool.false_ne_true : some (false, ()) = some (true, ()))) (fun _ =>
  brN (c := Nat.ble (((((([] : List Note) ++ qb0.1.1) ++ qc0.1.1) ++ qb1.1.1).length + qc1.1.1.length) * mulB Tryz.prog 46) maxL) (by rw [mb46, Lb0.1, Tc0.1, Lb1.1, Tc1.1]; exact Nat.ble_eq_true_of_le (by unfold maxL; simp only [List.length_append, List.length_cons, List.length_nil]; omega)) (
  And.intro (Pre.mk ⟨hf, by decide, by decide⟩ : Pre (okF 1 4)) (
  nmd (a := fr_c.post ((1 : Int), (4 : Int), ()) ((qc1.2.2.1, qc1.2.2.2.2.2) : EL D BS)) (fun qa2 ha2 =>
  have Fa2 : Fct 1 4 [] [] (kP qa2.2) := by rw [← ha2]; exact ⟨rfl, rfl, rfl⟩
  And.intro (Pre.mk (saysW (by decide) (by decide) (by decide) (by decide)) : Pre (isW (kc (bL a.2.1) 4 4))) (
  nmd (a := lv_c.post (kc (bL a.2.1) 4 4, ()) (kP qa2.2)) (fun qb2 hb2 =>
  have Lb2 : qb2.1 = ([tells (kc (bL a.2.1) 4 4)], 0, ()) ∧ Fct 1 4 [(4, dgS (kc (bL a.2.1) 4 4))] [] qb2.2 ∧ ∀ c, inB (kP qa2.2) c → inB qb2.2 c := by rw [← hb2]; exact lv_first Fa2
  bq (qb2.1.2.1 != (0 : Int)) (fun h => (by rw [Lb2.1] at h; exact absurd h Bool.false_ne_true : some (false, ()) = some (true, ()))) (fun _ =>
  brN (c := Nat.ble ((((((([] : List Note) ++ qb0.1.1) ++ qc0.1.1) ++ qb1.1.1) ++ qc1.1.1).length + qb2.1.1.length) * mulB Tryz.prog 46) maxL) (by rw [mb46, Lb0.1, Tc0.1, Lb1.1, Tc1.1, Lb2.1]; exact Nat.ble_eq_true_of_le (by unfold maxL; simp only [List.length_append, List.length_cons, List.length_nil]; omega)) (
  brL fun _ : a.2.1.length ≤ maxL =>
  And.intro (bq (decide ((2 : Int) < ((a.2.1.length : Nat) : Int))) (fun h =>
    brN (c := decide ((0 : Int) ≤ (2 : Int)) && decide ((2 : Int) < ((a.2.1.length : Nat) : Int))) (by rw [h]; rfl) (
    (⟨(), by
      show [SV.u8 (a.2.1.getD (2 : Int).toNat 0)] = [SV.u8 (lie a.2.1 2)]
      unfold lie
      rw [show decide (2 < a.2.1.length) = true by have := of_decide_eq_true h; exact decide_eq_true (by omega)]; rfl, rfl, rfl, trivial⟩ : Ent (cj_h (lie a.2.1 2)) [SV.u8 (a.2.1.getD (2 : Int).toNat 0)] [] []))) (fun h =>
    (⟨(), by
      show [SV.u8 (0 : UInt8)] = [SV.u8 (lie a.2.1 2)]
      unfold lie
      rw [show decide (2 < a.2.1.length) = false by have := of_decide_eq_false h; exact decide_eq_false (by omega)]; rfl, rfl, rfl, trivial⟩ : Ent (cj_h (lie a.2.1 2)) [SV.u8 (0 : UInt8)] [] []))) (
  fun (_ : Unit) (_ : True) =>
  And.intro (Pre.mk (tell_nt (by decide) (by decide) (by decide) (by decide)) : Pre (isNt (tells (kc (bL a.2.1) 4 1)))) (
  nmd (a := tk_c.post (tells (kc (bL a.2.1) 4 1), ()) qb2.2) (fun qc2 hc2 =>
  have Tc2 : qc2.1 = ([ackW 4 (kc (bL a.2.1) 4 1)], 0, ()) ∧ Fct 1 4 [(4, dgS (kc (bL a.2.1) 4 4)), (1, dgS (kc (bL a.2.1) 4 1))] [] qc2.2 ∧ (∀ c, inB qb2.2 c → inB qc2.2 c) ∧ inB qc2.2 (chBytes (kc (bL a.2.1) 4 1)) := by rw [← hc2]; exact tk_first Lb2.2.1 hf ⟨by decide, by decide⟩
  have I2_0 : inB qc2.2 (chBytes (kc (bL a.2.1) 2 1)) := Tc2.2.2.1 _ (Lb2.2.2 _ (by rw [← ha2]; exact I1_0))
  have I2_1 : inB qc2.2 (chBytes (kc (bL a.2.1) 3 1)) := Tc2.2.2.1 _ (Lb2.2.2 _ (by rw [← ha2]; exact I1_1))
  have I2_2 : inB qc2.2 (chBytes (kc (bL a.2.1) 4 1)) := Tc2.2.2.2
  bq (qc2.1.2.1 != (0 : Int)) (fun h => (by rw [Tc2.1] at h; exact absurd h Bool.false_ne_true : some (false, ()) = some (true, ()))) (fun _ =>
  brN (c := Nat.ble (((((((([] : List Note) ++ qb0.1.1) ++ qc0.1.1) ++ qb1.1.1) ++ qc1.1.1) ++ qb2.1.1).length + qc2.1.1.length) * mulB Tryz.prog 46) maxL) (by rw [mb46, Lb0.1, Tc0.1, Lb1.1, Tc1.1, Lb2.1, Tc2.1]; exact Nat.ble_eq_true_of_le (by unfold maxL; simp only [List.length_append, List.length_cons, List.length_nil]; omega)) (
  have eS : ((((((([] : List Note) ++ qb0.1.1) ++ qc0.1.1) ++ qb1.1.1) ++ qc1.1.1) ++ qb2.1.1) ++ qc2.1.1) = [tells (kc (bL a.2.1) 2 2), ackW 2 (kc (bL a.2.1) 2 1), tells (kc (bL a.2.1) 3 3), ackW 3 (kc (bL a.2.1) 3 1), tells (kc (bL a.2.1) 4 4), ackW 4 (kc (bL a.2.1) 4 1)] := by rw [Lb0.1, Tc0.1, Lb1.1, Tc1.1, Lb2.1, Tc2.1]; rfl
  have IN : ∀ y, In 1 y → inB qc2.2 (chBytes (kc (bL a.2.1) y 1)) := fun y hy => by
    have h : y = 2 ∨ y = 3 ∨ y = 4 := by omega
    rcases h with rfl|rfl|rfl
    · exact I2_0
    · exact I2_1
    · exact I2_2
  have SS : SI (bL a.2.1) 1 (lQ3 ((qc2.2.2.1, kSn qc2.2, kMo qc2.2, qc0.2.1, kCh qc0.2, kAk qc0.2, qc1.2.1, kCh qc1.2, kAk qc1.2, qc2.2.1, kCh qc2.2, kAk qc2.2, ()) : EL D QS3)) ((((((([] : List Note) ++ qb0.1.1) ++ qc0.1.1) ++ qb1.1.1) ++ qc1.1.1) ++ qb2.1.1) ++ qc2.1.1) 0 := by
    rw [eS]
    refine SI.start rfl (at3 ⟨Tc0.2.1.hd, Tc0.2.1.ch, Tc0.2.1.ak⟩ ⟨Tc1.2.1.hd, Tc1.2.1.ch, Tc1.2.1.ak⟩ ⟨Tc2.2.1.hd, Tc2.2.1.ch, Tc2.2.1.ak⟩) ?_ ?_ ?_ (by show 6 ≤ 2 * 3; decide) (fun j k y hj hy => ath3 (Q := fun _ k => inB k (chBytes (kc (bL a.2.1) y 1))) hj (IN y hy) (IN y hy) (IN y hy))
    · intro n hn
      simp only [List.mem_cons, List.not_mem_nil, or_false] at hn
      rcases hn with rfl|rfl|rfl|rfl|rfl|rfl
      · exact .inl ⟨2, ⟨by decide, by decide⟩, rfl⟩
      · exact .inr ⟨2, 1, ⟨by decide, by decide⟩, .inl rfl, by decide, rfl⟩
      · exact .inl ⟨3, ⟨by decide, by decide⟩, rfl⟩
      · exact .inr ⟨3, 1, ⟨by decide, by decide⟩, .inl rfl, by decide, rfl⟩
      · exact .inl ⟨4, ⟨by decide, by decide⟩, rfl⟩
      · exact .inr ⟨4, 1, ⟨by decide, by decide⟩, .inl rfl, by decide, rfl⟩
    · intro y hy
      have h : y = 2 ∨ y = 3 ∨ y = 4 := by omega
      rcases h with rfl|rfl|rfl <;> simp only [List.mem_cons, eq_self, true_or, or_true]
    · intro y hy
      have h : y = 2 ∨ y = 3 ∨ y = 4 := by omega
      rcases h with rfl|rfl|rfl <;> simp only [List.mem_cons, eq_self, true_or, or_true]
  And.intro (⟨(((qc2.2.2.1, kSn qc2.2, kMo qc2.2, qc0.2.1, kCh qc0.2, kAk qc0.2, qc1.2.1, kCh qc1.2, kAk qc1.2, qc2.2.1, kCh qc2.2, kAk qc2.2, ()) : EL D QS3), ((((((([] : List Note) ++ qb0.1.1) ++ qc0.1.1) ++ qb1.1.1) ++ qc1.1.1) ++ qb2.1.1) ++ qc2.1.1), (0 : Nat)), rfl, rfl, rfl, ⟨SS, Nat.zero_le _⟩⟩ : Ent (da3_h (bL a.2.1)) [SV.own 0, SV.i .i64 (0 : Int)] [HB.arr (.st 7) 46 ((((((([] : List Note) ++ qb0.1.1) ++ qc0.1.1) ++ qb1.1.1) ++ qc1.1.1) ++ qb2.1.1) ++ qc2.1.1)] (opnEs EF QS3 eQ3 QS3 ((qc2.2.2.1, kSn qc2.2, kMo qc2.2, qc0.2.1, kCh qc0.2, kAk qc0.2, qc1.2.1, kCh qc1.2, kAk qc1.2, qc2.2.1, kCh qc2.2, kAk qc2.2, ()) : EL D QS3))) (
  fun (i : EL D QS3 × List Note × Nat) (hI : SI (bL a.2.1) 1 (lQ3 i.1) i.2.1 i.2.2 ∧ i.2.2 ≤ 200) =>
  have few := hI.1.few hf
  bq (bif decide ((i.2.2 : Int) < ((i.2.1.length : Nat) : Int)) then decide ((i.2.2 : Int) < (200 : Int)) else false) (fun h24 =>
  have hj : i.2.2 < i.2.1.length ∧ i.2.2 < 200 := by
    cases h : decide ((i.2.2 : Int) < ((i.2.1.length : Nat) : Int)) with
    | false => rw [h] at h24; cases h24
    | true => rw [h] at h24; have h24 := of_decide_eq_true h24; have h := of_decide_eq_true h; omega
  have hn : i.2.1[i.2.2]? = some (i.2.1.getD (i.2.2 : Int).toNat (Ty.dflt D (.st 7))) := by rw [Int.toNat_natCast, List.getD_eq_getElem?_getD, List.getElem?_eq_getElem hj.1]; rfl
  have hg : Gd (bL a.2.1) 1 (i.2.1.getD (i.2.2 : Int).toNat (Ty.dflt D (.st 7))) := hI.1.gd _ (List.mem_of_getElem? hn)
  have M0 : MidS (bL a.2.1) 1 (lQ3 i.1) i.2.1 i.2.2 (i.2.1.getD (i.2.2 : Int).toNat (Ty.dflt D (.st 7))) 0 := hI.1.mid
  have L0 : i.2.2 < i.2.1.length := Nat.lt_of_lt_of_le hj.1 (by first | exact Nat.le_refl _ | (simp only [List.length_append]; omega))
  have E0 : i.2.1.getD (i.2.2 : Int).toNat (Ty.dflt D (.st 7)) = i.2.1.getD (i.2.2 : Int).toNat (Ty.dflt D (.st 7)) := rfl
  brN (c := decide ((0 : Int) ≤ (i.2.2 : Int)) && decide ((i.2.2 : Int) < ((i.2.1.length : Nat) : Int))) (ltB L0) (
  And.intro (Pre.mk (by rw [E0]; exact hg.nt hf) : Pre (isNt (i.2.1.getD (i.2.2 : Int).toNat (Ty.dflt D (.st 7))))) (
  nmd (a := tk_c.post (i.2.1.getD (i.2.2 : Int).toNat (Ty.dflt D (.st 7)), ()) ((i.1.2.2.2.1, i.1.1, i.1.2.2.2.2.1, i.1.2.2.2.2.2.1, i.1.2.1, i.1.2.2.1, ()) : KD)) (fun q1 hq0 =>
  have M1 : MidS (bL a.2.1) 1 (stpL (lQ3 i.1) 0 q1.2) (i.2.1 ++ (bif q1.1.2.1 == 0 then q1.1.1 else [])) i.2.2 (i.2.1.getD (i.2.2 : Int).toNat (Ty.dflt D (.st 7))) 1 := by rw [← hq0, E0]; exact M0.step hf rfl hg
  And.intro (bq (q1.1.2.1 == (0 : Int)) (fun hz =>
    brN (c := Nat.ble ((i.2.1.length + q1.1.1.length) * mulB Tryz.prog 46) maxL) (by
      have h6 := M1.si.few hf
      rw [hz, cond_true, List.length_append] at h6
      rw [mb46]; exact Nat.ble_eq_true_of_le (by unfold maxL; omega)) (
    (⟨(), rfl, by
      show ([HB.arr (.st 7) 46 (i.2.1 ++ q1.1.1)] : List (HB D)) = [HB.arr (.st 7) 46 (i.2.1 ++ (bif q1.1.2.1 == 0 then q1.1.1 else []))]
      rw [hz]; rfl, rfl, trivial⟩ : Ent (cs_h (i.2.1 ++ (bif q1.1.2.1 == 0 then q1.1.1 else []))) [SV.own 0] [HB.arr (.st 7) 46 (i.2.1 ++ q1.1.1)] []))) (fun hz =>
    (⟨(), rfl, by
      show ([HB.arr (.st 7) 46 i.2.1] : List (HB D)) = [HB.arr (.st 7) 46 (i.2.1 ++ (bif q1.1.2.1 == 0 then q1.1.1 else []))]
      rw [hz, cond_false, List.append_nil], rfl, trivial⟩ : Ent (cs_h (i.2.1 ++ (bif q1.1.2.1 == 0 then q1.1.1 else []))) [SV.own 0] [HB.arr (.st 7) 46 i.2.1] []))) (
  fun (_ : Unit) (_ : True) =>
  have L1 : i.2.2 < (i.2.1 ++ (bif q1.1.2.1 == 0 then q1.1.1 else [])).length := Nat.lt_of_lt_of_le hj.1 (by first | exact Nat.le_refl _ | (simp only [List.length_append]; omega))
  have E1 : (i.2.1 ++ (bif q1.1.2.1 == 0 then q1.1.1 else [])).getD (i.2.2 : Int).toNat (Ty.dflt D (.st 7)) = i.2.1.getD (i.2.2 : Int).toNat (Ty.dflt D (.st 7)) := (getD_app L0).trans E0
  brN (c := decide ((0 : Int) ≤ (i.2.2 : Int)) && decide ((i.2.2 : Int) < (((i.2.1 ++ (bif q1.1.2.1 == 0 then q1.1.1 else [])).length : Nat) : Int))) (ltB L1) (
  And.intro (Pre.mk (by rw [E1]; exact hg.nt hf) : Pre (isNt ((i.2.1 ++ (bif q1.1.2.1 == 0 then q1.1.1 else [])).getD (i.2.2 : Int).toNat (Ty.dflt D (.st 7))))) (
  nmd (a := tk_c.post ((i.2.1 ++ (bif q1.1.2.1 == 0 then q1.1.1 else [])).getD (i.2.2 : Int).toNat (Ty.dflt D (.st 7)), ()) ((i.1.2.2.2.2.2.2.1, q1.2.2.1, i.1.2.2.2.2.2.2.2.1, i.1.2.2.2.2.2.2.2.2.1, q1.2.2.2.2.2) : KD)) (fun q2 hq1 =>
  have M2 : MidS (bL a.2.1) 1 (stpL (stpL (lQ3 i.1) 0 q1.2) 1 q2.2) ((i.2.1 ++ (bif q1.1.2.1 == 0 then q1.1.1 else [])) ++ (bif q2.1.2.1 == 0 then q2.1.1 else [])) i.2.2 (i.2.1.getD (i.2.2 : Int).toNat (Ty.dflt D (.st 7))) 2 := by rw [← hq1, E1]; exact M1.step hf rfl hg
  And.intro (bq (q2.1.2.1 == (0 : Int)) (fun hz =>
    brN (c := Nat.ble (((i.2.1 ++ (bif q1.1.2.1 == 0 then q1.1.1 else [])).length + q2.1.1.length) * mulB Tryz.prog 46) maxL) (by
      have h6 := M2.si.few hf
      rw [hz, cond_true, List.length_append] at h6
      rw [mb46]; exact Nat.ble_eq_true_of_le (by unfold maxL; omega)) (
    (⟨(), rfl, by
      show ([HB.arr (.st 7) 46 ((i.2.1 ++ (bif q1.1.2.1 == 0 then q1.1.1 else [])) ++ q2.1.1)] : List (HB D)) = [HB.arr (.st 7) 46 ((i.2.1 ++ (bif q1.1.2.1 == 0 then q1.1.1 else [])) ++ (bif q2.1.2.1 == 0 then q2.1.1 else []))]
      rw [hz]; rfl, rfl, trivial⟩ : Ent (cs_h ((i.2.1 ++ (bif q1.1.2.1 == 0 then q1.1.1 else [])) ++ (bif q2.1.2.1 == 0 then q2.1.1 else []))) [SV.own 0] [HB.arr (.st 7) 46 ((i.2.1 ++ (bif q1.1.2.1 == 0 then q1.1.1 else [])) ++ q2.1.1)] []))) (fun hz =>
    (⟨(), rfl, by
      show ([HB.arr (.st 7) 46 (i.2.1 ++ (bif q1.1.2.1 == 0 then q1.1.1 else []))] : List (HB D)) = [HB.arr (.st 7) 46 ((i.2.1 ++ (bif q1.1.2.1 == 0 then q1.1.1 else [])) ++ (bif q2.1.2.1 == 0 then q2.1.1 else []))]
      rw [hz, cond_false, List.append_nil], rfl, trivial⟩ : Ent (cs_h ((i.2.1 ++ (bif q1.1.2.1 == 0 then q1.1.1 else [])) ++ (bif q2.1.2.1 == 0 then q2.1.1 else []))) [SV.own 0] [HB.arr (.st 7) 46 (i.2.1 ++ (bif q1.1.2.1 == 0 then q1.1.1 else []))] []))) (
  fun (_ : Unit) (_ : True) =>
  have L2 : i.2.2 < ((i.2.1 ++ (bif q1.1.2.1 == 0 then q1.1.1 else [])) ++ (bif q2.1.2.1 == 0 then q2.1.1 else [])).length := Nat.lt_of_lt_of_le hj.1 (by first | exact Nat.le_refl _ | (simp only [List.length_append]; omega))
  have E2 : ((i.2.1 ++ (bif q1.1.2.1 == 0 then q1.1.1 else [])) ++ (bif q2.1.2.1 == 0 then q2.1.1 else [])).getD (i.2.2 : Int).toNat (Ty.dflt D (.st 7)) = i.2.1.getD (i.2.2 : Int).toNat (Ty.dflt D (.st 7)) := (getD_app L1).trans E1
  brN (c := decide ((0 : Int) ≤ (i.2.2 : Int)) && decide ((i.2.2 : Int) < ((((i.2.1 ++ (bif q1.1.2.1 == 0 then q1.1.1 else [])) ++ (bif q2.1.2.1 == 0 then q2.1.1 else [])).length : Nat) : Int))) (ltB L2) (
  And.intro (Pre.mk (by rw [E2]; exact hg.nt hf) : Pre (isNt (((i.2.1 ++ (bif q1.1.2.1 == 0 then q1.1.1 else [])) ++ (bif q2.1.2.1 == 0 then q2.1.1 else [])).getD (i.2.2 : Int).toNat (Ty.dflt D (.st 7))))) (
  nmd (a := tk_c.post (((i.2.1 ++ (bif q1.1.2.1 == 0 then q1.1.1 else [])) ++ (bif q2.1.2.1 == 0 then q2.1.1 else [])).getD (i.2.2 : Int).toNat (Ty.dflt D (.st 7)), ()) ((i.1.2.2.2.2.2.2.2.2.2.1, q2.2.2.1, i.1.2.2.2.2.2.2.2.2.2.2.1, i.1.2.2.2.2.2.2.2.2.2.2.2.1, q2.2.2.2.2.2) : KD)) (fun q3 hq2 =>
  have M3 : MidS (bL a.2.1) 1 (stpL (stpL (stpL (lQ3 i.1) 0 q1.2) 1 q2.2) 2 q3.2) (((i.2.1 ++ (bif q1.1.2.1 == 0 then q1.1.1 else [])) ++ (bif q2.1.2.1 == 0 then q2.1.1 else [])) ++ (bif q3.1.2.1 == 0 then q3.1.1 else [])) i.2.2 (i.2.1.getD (i.2.2 : Int).toNat (Ty.dflt D (.st 7))) 3 := by rw [← hq2, E2]; exact M2.step hf rfl hg
  And.intro (bq (q3.1.2.1 == (0 : Int)) (fun hz =>
    brN (c := Nat.ble ((((i.2.1 ++ (bif q1.1.2.1 == 0 then q1.1.1 else [])) ++ (bif q2.1.2.1 == 0 then q2.1.1 else [])).length + q3.1.1.length) * mulB Tryz.prog 46) maxL) (by
      have h6 := M3.si.few hf
      rw [hz, cond_true, List.length_append] at h6
      rw [mb46]; exact Nat.ble_eq_true_of_le (by unfold maxL; omega)) (
    (⟨(), rfl, by
      show ([HB.arr (.st 7) 46 (((i.2.1 ++ (bif q1.1.2.1 == 0 then q1.1.1 else [])) ++ (bif q2.1.2.1 == 0 then q2.1.1 else [])) ++ q3.1.1)] : List (HB D)) = [HB.arr (.st 7) 46 (((i.2.1 ++ (bif q1.1.2.1 == 0 then q1.1.1 else [])) ++ (bif q2.1.2.1 == 0 then q2.1.1 else [])) ++ (bif q3.1.2.1 == 0 then q3.1.1 else []))]
      rw [hz]; rfl, rfl, trivial⟩ : Ent (cs_h (((i.2.1 ++ (bif q1.1.2.1 == 0 then q1.1.1 else [])) ++ (bif q2.1.2.1 == 0 then q2.1.1 else [])) ++ (bif q3.1.2.1 == 0 then q3.1.1 else []))) [SV.own 0] [HB.arr (.st 7) 46 (((i.2.1 ++ (bif q1.1.2.1 == 0 then q1.1.1 else [])) ++ (bif q2.1.2.1 == 0 then q2.1.1 else [])) ++ q3.1.1)] []))) (fun hz =>
    (⟨(), rfl, by
      show ([HB.arr (.st 7) 46 ((i.2.1 ++ (bif q1.1.2.1 == 0 then q1.1.1 else [])) ++ (bif q2.1.2.1 == 0 then q2.1.1 else []))] : List (HB D)) = [HB.arr (.st 7) 46 (((i.2.1 ++ (bif q1.1.2.1 == 0 then q1.1.1 else [])) ++ (bif q2.1.2.1 == 0 then q2.1.1 else [])) ++ (bif q3.1.2.1 == 0 then q3.1.1 else []))]
      rw [hz, cond_false, List.append_nil], rfl, trivial⟩ : Ent (cs_h (((i.2.1 ++ (bif q1.1.2.1 == 0 then q1.1.1 else [])) ++ (bif q2.1.2.1 == 0 then q2.1.1 else [])) ++ (bif q3.1.2.1 == 0 then q3.1.1 else []))) [SV.own 0] [HB.arr (.st 7) 46 ((i.2.1 ++ (bif q1.1.2.1 == 0 then q1.1.1 else [])) ++ (bif q2.1.2.1 == 0 then q2.1.1 else []))] []))) (
  fun (_ : Unit) (_ : True) =>
  have hn2 : (((i.2.1 ++ (bif q1.1.2.1 == 0 then q1.1.1 else [])) ++ (bif q2.1.2.1 == 0 then q2.1.1 else [])) ++ (bif q3.1.2.1 == 0 then q3.1.1 else []))[i.2.2]? = some (i.2.1.getD (i.2.2 : Int).toNat (Ty.dflt D (.st 7))) := (getE_app (getE_app (getE_app hn)))
  have SN : SI (bL a.2.1) 1 (lQ3 ((q3.2.2.1, kSn q3.2, kMo q3.2, q1.2.1, kCh q1.2, kAk q1.2, q2.2.1, kCh q2.2, kAk q2.2, q3.2.1, kCh q3.2, kAk q3.2, ()) : EL D QS3)) (((i.2.1 ++ (bif q1.1.2.1 == 0 then q1.1.1 else [])) ++ (bif q2.1.2.1 == 0 then q2.1.1 else [])) ++ (bif q3.1.2.1 == 0 then q3.1.1 else [])) (i.2.2 + 1) := M3.fin (Nat.le_of_eq rfl) hn2
  (⟨(((q3.2.2.1, kSn q3.2, kMo q3.2, q1.2.1, kCh q1.2, kAk q1.2, q2.2.1, kCh q2.2, kAk q2.2, q3.2.1, kCh q3.2, kAk q3.2, ()) : EL D QS3), (((i.2.1 ++ (bif q1.1.2.1 == 0 then q1.1.1 else [])) ++ (bif q2.1.2.1 == 0 then q2.1.1 else [])) ++ (bif q3.1.2.1 == 0 then q3.1.1 else [])), i.2.2 + 1), by
      show [SV.own 0, SV.i .i64 (IntKind.wrap .i64 ((i.2.2 : Int) + 1))] = [SV.own 0, iv ((i.2.2 + 1 : Nat) : Int)]
      rw [wr1 (by omega)], rfl, rfl, ⟨SN, hj.2⟩, by show 200 - (i.2.2 + 1) < 200 - i.2.2; omega⟩ : Rnd (da3_h (bL a.2.1)) i [SV.own 0, SV.i .i64 (IntKind.wrap .i64 ((i.2.2 : Int) + 1))] [HB.arr (.st 7) 46 (((i.2.1 ++ (bif q1.1.2.1 == 0 then q1.1.1 else [])) ++ (bif q2.1.2.1 == 0 then q2.1.1 else [])) ++ (bif q3.1.2.1 == 0 then q3.1.1 else []))] (opnEs EF QS3 eQ3 QS3 ((q3.2.2.1, kSn q3.2, kMo q3.2, q1.2.1, kCh q1.2, kAk q1.2, q2.2.1, kCh q2.2, kAk q2.2, q3.2.1, kCh q3.2, kAk q3.2, ()) : EL D QS3)))))))))))))))) (fun h24 =>
  have FF : FI (bL a.2.1) 1 (lQ3 i.1) := hI.1.done (by
    cases h : decide ((i.2.2 : Int) < ((i.2.1.length : Nat) : Int)) with
    | false => have := of_decide_eq_false h; omega
    | true => rw [h] at h24; have := of_decide_eq_false h24; omega)
  And.intro (Pre.mk (FF.okK0 hf (l := lQ3 i.1) (i := 0) rfl) : Pre (okK ((i.1.2.2.2.1, i.1.1, i.1.2.2.2.2.1, i.1.2.2.2.2.2.1, i.1.2.1, i.1.2.2.1, ()) : KD))) (
  nmd (a := (rdy_c.post ((3 : Int), ()) ((i.1.2.2.2.1, i.1.1, i.1.2.2.2.2.1, i.1.2.2.2.2.2.1, i.1.2.1, i.1.2.2.1, ()) : KD)).1) (fun r0 hr0 =>
  have hr : r0.1 = rdyL ((i.1.2.2.2.1, i.1.1, i.1.2.2.2.2.1, i.1.2.2.2.2.2.1, i.1.2.1, i.1.2.2.1, ()) : KD) 3 (rdyK ((i.1.2.2.2.1, i.1.1, i.1.2.2.2.2.1, i.1.2.2.2.2.2.1, i.1.2.1, i.1.2.2.1, ()) : KD)) := by rw [← hr0]; rfl
  brL fun _ : r0.1.length ≤ maxL =>
  bq (decide (((r0.1.length : Nat) : Int) < (3 : Int))) (fun h => nmd (a := bc_c.post () ((i.1.1, i.1.2.1, i.1.2.2.1, ()) : EL D BS)) (fun q _ => (absurd (of_decide_eq_true h) (by have := FF.many hf (l := lQ3 i.1) (j := 0) rfl; rw [← hr] at this; have e : (lQ3 i.1).length = 3 := rfl; rw [e] at this; omega) : some q.1 = some (true, ())))) (fun _ =>
  And.intro (⟨(i.1, (0 : Nat)), rfl, rfl, rfl, ⟨Nat.zero_le _, FF, fun z hz => ⟨0, _, rfl, by rw [← hr]; exact hz⟩⟩⟩ : Ent (db3_h (bL a.2.1) r0.1) [SV.i .i64 (0 : Int)] [] (opnEs EF QS3 eQ3 QS3 i.1)) (
  fun (c0 : EL D QS3 × Nat) (hC0 : c0.2 ≤ r0.1.length ∧ FI (bL a.2.1) 1 (lQ3 c0.1) ∧ ∀ z ∈ r0.1, ∃ (j : Nat) (k : KD), (lQ3 c0.1)[j]? = some k ∧ z ∈ rdyL k 3 (rdyK k)) =>
  brL fun hm0 : r0.1.length ≤ maxL =>
  bq (decide ((c0.2 : Int) < ((r0.1.length : Nat) : Int))) (fun h17 =>
  have hc : c0.2 < r0.1.length := by have := of_decide_eq_true h17; omega
  have hX : ∃ (j : Nat) (k : KD), (lQ3 c0.1)[j]? = some k ∧ (r0.1.getD (c0.2 : Int).toNat (Ty.dflt D (.st 3))) ∈ rdyL k 3 (rdyK k) := hC0.2.2 _ (by rw [getD_at hc]; exact List.getElem_mem hc)
  have hW := hC0.2.1.isW hf hX
  have B0 : ∀ x, (∀ (j : Nat) (k : KD), (lQ3 c0.1)[j]? = some k → inB k x) → inB ((c0.1.2.2.2.1, c0.1.1, c0.1.2.2.2.2.1, c0.1.2.2.2.2.2.1, c0.1.2.1, c0.1.2.2.1, ()) : KD) x := fun x hx => hx 0 _ rfl
  brN (c := decide ((0 : Int) ≤ (c0.2 : Int)) && decide ((c0.2 : Int) < ((r0.1.length : Nat) : Int))) (ltB hc) (
  And.intro (Pre.mk ⟨hW.1, hC0.2.1.okK hf (l := lQ3 c0.1) (i := 0) rfl ((c0.1.2.2.2.1, c0.1.1, c0.1.2.2.2.2.1, c0.1.2.2.2.2.2.1, c0.1.2.1, c0.1.2.2.1, ()) : KD)⟩ : Pre (isW (r0.1.getD (c0.2 : Int).toNat (Ty.dflt D (.st 3))) ∧ okK ((c0.1.2.2.2.1, c0.1.1, c0.1.2.2.2.2.1, c0.1.2.2.2.2.2.1, c0.1.2.1, c0.1.2.2.1, ()) : KD))) (
  nmd (a := vch_c.post ((r0.1.getD (c0.2 : Int).toNat (Ty.dflt D (.st 3))), ()) ((c0.1.2.2.2.1, c0.1.1, c0.1.2.2.2.2.1, c0.1.2.2.2.2.2.1, c0.1.2.1, c0.1.2.2.1, ()) : KD)) (fun v0 hv0 =>
  have V0 : v0 = ((vchB ((c0.1.2.2.2.1, c0.1.1, c0.1.2.2.2.2.1, c0.1.2.2.2.2.2.1, c0.1.2.1, c0.1.2.2.1, ()) : KD) (r0.1.getD (c0.2 : Int).toNat (Ty.dflt D (.st 3))), ()), kInk ((c0.1.2.2.2.1, c0.1.1, c0.1.2.2.2.2.1, c0.1.2.2.2.2.2.1, c0.1.2.1, c0.1.2.2.1, ()) : KD) (chBytes (r0.1.getD (c0.2 : Int).toNat (Ty.dflt D (.st 3))))) := by rw [← hv0]; exact hC0.2.1.vchP hf (l := lQ3 c0.1) (i := 0) rfl ((c0.1.2.2.2.1, c0.1.1, c0.1.2.2.2.2.1, c0.1.2.2.2.2.2.1, c0.1.2.1, c0.1.2.2.1, ()) : KD) hW.2
  bq (!v0.1.1) (fun h =>
    nmd (a := bc_c.post () ((v0.2.2.1, v0.2.2.2.2.2) : EL D BS)) (fun q hq => (by
      have hm := (hC0.2.1.vouchW hf ((c0.1.2.2.2.1, c0.1.1, c0.1.2.2.2.2.1, c0.1.2.2.2.2.2.1, c0.1.2.1, c0.1.2.2.1, ()) : KD) B0 hX (l := lQ3 c0.1) (i := 0) rfl).resolve_left (fun ht => by
        have ht : vchB ((c0.1.2.2.2.1, c0.1.1, c0.1.2.2.2.2.1, c0.1.2.2.2.2.2.1, c0.1.2.1, c0.1.2.2.1, ()) : KD) (r0.1.getD (c0.2 : Int).toNat (Ty.dflt D (.st 3))) = true := ht
        rw [V0] at h
        have h : (!vchB ((c0.1.2.2.2.1, c0.1.1, c0.1.2.2.2.2.1, c0.1.2.2.2.2.2.1, c0.1.2.1, c0.1.2.2.1, ()) : KD) (r0.1.getD (c0.2 : Int).toNat (Ty.dflt D (.st 3)))) = true := h
        rw [ht] at h; exact absurd h Bool.false_ne_true)
      rw [← hq]
      exact congrArg some (cl_mo (by rw [V0]; exact hm)) : some q.1 = some (true, ())))) (fun _ =>
  have B1 : ∀ x, (∀ (j : Nat) (k : KD), (lQ3 c0.1)[j]? = some k → inB k x) → inB v0.2 x := fun x hx => by rw [V0]; exact inB_keep (B0 x hx) _
  brN (c := decide ((0 : Int) ≤ (c0.2 : Int)) && decide ((c0.2 : Int) < ((r0.1.length : Nat) : Int))) (ltB hc) (
  And.intro (Pre.mk ⟨hW.1, hC0.2.1.okK hf (l := lQ3 c0.1) (i := 1) rfl v0.2⟩ : Pre (isW (r0.1.getD (c0.2 : Int).toNat (Ty.dflt D (.st 3))) ∧ okK ((c0.1.2.2.2.2.2.2.1, v0.2.2.1, c0.1.2.2.2.2.2.2.2.1, c0.1.2.2.2.2.2.2.2.2.1, v0.2.2.2.2.2) : KD))) (
  nmd (a := vch_c.post ((r0.1.getD (c0.2 : Int).toNat (Ty.dflt D (.st 3))), ()) ((c0.1.2.2.2.2.2.2.1, v0.2.2.1, c0.1.2.2.2.2.2.2.2.1, c0.1.2.2.2.2.2.2.2.2.1, v0.2.2.2.2.2) : KD)) (fun v1 hv1 =>
  have V1 : v1 = ((vchB ((c0.1.2.2.2.2.2.2.1, v0.2.2.1, c0.1.2.2.2.2.2.2.2.1, c0.1.2.2.2.2.2.2.2.2.1, v0.2.2.2.2.2) : KD) (r0.1.getD (c0.2 : Int).toNat (Ty.dflt D (.st 3))), ()), kInk ((c0.1.2.2.2.2.2.2.1, v0.2.2.1, c0.1.2.2.2.2.2.2.2.1, c0.1.2.2.2.2.2.2.2.2.1, v0.2.2.2.2.2) : KD) (chBytes (r0.1.getD (c0.2 : Int).toNat (Ty.dflt D (.st 3))))) := by rw [← hv1]; exact hC0.2.1.vchP hf (l := lQ3 c0.1) (i := 1) rfl v0.2 hW.2
  bq (!v1.1.1) (fun h =>
    nmd (a := bc_c.post () ((v1.2.2.1, v1.2.2.2.2.2) : EL D BS)) (fun q hq => (by
      have hm := (hC0.2.1.vouchW hf v0.2 B1 hX (l := lQ3 c0.1) (i := 1) rfl).resolve_left (fun ht => by
        have ht : vchB ((c0.1.2.2.2.2.2.2.1, v0.2.2.1, c0.1.2.2.2.2.2.2.2.1, c0.1.2.2.2.2.2.2.2.2.1, v0.2.2.2.2.2) : KD) (r0.1.getD (c0.2 : Int).toNat (Ty.dflt D (.st 3))) = true := ht
        rw [V1] at h
        have h : (!vchB ((c0.1.2.2.2.2.2.2.1, v0.2.2.1, c0.1.2.2.2.2.2.2.2.1, c0.1.2.2.2.2.2.2.2.2.1, v0.2.2.2.2.2) : KD) (r0.1.getD (c0.2 : Int).toNat (Ty.dflt D (.st 3)))) = true := h
        rw [ht] at h; exact absurd h Bool.false_ne_true)
      rw [← hq]
      exact congrArg some (cl_mo (by rw [V1]; exact hm)) : some q.1 = some (true, ())))) (fun _ =>
  have B2 : ∀ x, (∀ (j : Nat) (k : KD), (lQ3 c0.1)[j]? = some k → inB k x) → inB v1.2 x := fun x hx => by rw [V1]; exact inB_keep (B1 x hx) _
  brN (c := decide ((0 : Int) ≤ (c0.2 : Int)) && decide ((c0.2 : Int) < ((r0.1.length : Nat) : Int))) (ltB hc) (
  And.intro (Pre.mk ⟨hW.1, hC0.2.1.okK hf (l := lQ3 c0.1) (i := 2) rfl v1.2⟩ : Pre (isW (r0.1.getD (c0.2 : Int).toNat (Ty.dflt D (.st 3))) ∧ okK ((c0.1.2.2.2.2.2.2.2.2.2.1, v1.2.2.1, c0.1.2.2.2.2.2.2.2.2.2.2.1, c0.1.2.2.2.2.2.2.2.2.2.2.2.1, v1.2.2.2.2.2) : KD))) (
  nmd (a := vch_c.post ((r0.1.getD (c0.2 : Int).toNat (Ty.dflt D (.st 3))), ()) ((c0.1.2.2.2.2.2.2.2.2.2.1, v1.2.2.1, c0.1.2.2.2.2.2.2.2.2.2.2.1, c0.1.2.2.2.2.2.2.2.2.2.2.2.1, v1.2.2.2.2.2) : KD)) (fun v2 hv2 =>
  have V2 : v2 = ((vchB ((c0.1.2.2.2.2.2.2.2.2.2.1, v1.2.2.1, c0.1.2.2.2.2.2.2.2.2.2.2.1, c0.1.2.2.2.2.2.2.2.2.2.2.2.1, v1.2.2.2.2.2) : KD) (r0.1.getD (c0.2 : Int).toNat (Ty.dflt D (.st 3))), ()), kInk ((c0.1.2.2.2.2.2.2.2.2.2.1, v1.2.2.1, c0.1.2.2.2.2.2.2.2.2.2.2.1, c0.1.2.2.2.2.2.2.2.2.2.2.2.1, v1.2.2.2.2.2) : KD) (chBytes (r0.1.getD (c0.2 : Int).toNat (Ty.dflt D (.st 3))))) := by rw [← hv2]; exact hC0.2.1.vchP hf (l := lQ3 c0.1) (i := 2) rfl v1.2 hW.2
  bq (!v2.1.1) (fun h =>
    nmd (a := bc_c.post () ((v2.2.2.1, v2.2.2.2.2.2) : EL D BS)) (fun q hq => (by
      have hm := (hC0.2.1.vouchW hf v1.2 B2 hX (l := lQ3 c0.1) (i := 2) rfl).resolve_left (fun ht => by
        have ht : vchB ((c0.1.2.2.2.2.2.2.2.2.2.1, v1.2.2.1, c0.1.2.2.2.2.2.2.2.2.2.2.1, c0.1.2.2.2.2.2.2.2.2.2.2.2.1, v1.2.2.2.2.2) : KD) (r0.1.getD (c0.2 : Int).toNat (Ty.dflt D (.st 3))) = true := ht
        rw [V2] at h
        have h : (!vchB ((c0.1.2.2.2.2.2.2.2.2.2.1, v1.2.2.1, c0.1.2.2.2.2.2.2.2.2.2.2.1, c0.1.2.2.2.2.2.2.2.2.2.2.2.1, v1.2.2.2.2.2) : KD) (r0.1.getD (c0.2 : Int).toNat (Ty.dflt D (.st 3)))) = true := h
        rw [ht] at h; exact absurd h Bool.false_ne_true)
      rw [← hq]
      exact congrArg some (cl_mo (by rw [V2]; exact hm)) : some q.1 = some (true, ())))) (fun _ =>
  have B3 : ∀ x, (∀ (j : Nat) (k : KD), (lQ3 c0.1)[j]? = some k → inB k x) → inB v2.2 x := fun x hx => by rw [V2]; exact inB_keep (B2 x hx) _
  have hl : lQ3 ((v2.2.2.1, kSn v2.2, kMo v2.2, v0.2.1, kCh v0.2, kAk v0.2, v1.2.1, kCh v1.2, kAk v1.2, v2.2.1, kCh v2.2, kAk v2.2, ()) : EL D QS3) = (lQ3 c0.1).map fun k => wb k v2.2 := by rw [V2, V1, V0]; rfl
  (⟨(((v2.2.2.1, kSn v2.2, kMo v2.2, v0.2.1, kCh v0.2, kAk v0.2, v1.2.1, kCh v1.2, kAk v1.2, v2.2.1, kCh v2.2, kAk v2.2, ()) : EL D QS3), c0.2 + 1), by
      show [SV.i .i64 (IntKind.wrap .i64 ((c0.2 : Int) + 1))] = [iv ((c0.2 + 1 : Nat) : Int)]
      rw [wrap1 hc hm0], rfl, rfl, ⟨hc, by rw [hl]; exact hC0.2.1.map v2.2 B3, fun z hz => by
        obtain ⟨j, k, h1, h2⟩ := hC0.2.2 z hz
        exact ⟨j, wb k v2.2, by rw [hl, List.getElem?_map, h1]; rfl, h2⟩⟩, by show r0.1.length - (c0.2 + 1) < r0.1.length - c0.2; omega⟩ : Rnd (db3_h (bL a.2.1) r0.1) c0 [SV.i .i64 (IntKind.wrap .i64 ((c0.2 : Int) + 1))] [] (opnEs EF QS3 eQ3 QS3 ((v2.2.2.1, kSn v2.2, kMo v2.2, v0.2.1, kCh v0.2, kAk v0.2, v1.2.1, kCh v1.2, kAk v1.2, v2.2.1, kCh v2.2, kAk v2.2, ()) : EL D QS3)))))))))))))))) (fun _ =>
  And.intro (Pre.mk (hC0.2.1.okK0 hf (l := lQ3 c0.1) (i := 1) rfl) : Pre (okK ((c0.1.2.2.2.2.2.2.1, c0.1.1, c0.1.2.2.2.2.2.2.2.1, c0.1.2.2.2.2.2.2.2.2.1, c0.1.2.1, c0.1.2.2.1, ()) : KD))) (
  nmd (a := (rdy_c.post ((3 : Int), ()) ((c0.1.2.2.2.2.2.2.1, c0.1.1, c0.1.2.2.2.2.2.2.2.1, c0.1.2.2.2.2.2.2.2.2.1, c0.1.2.1, c0.1.2.2.1, ()) : KD)).1) (fun r1 hr1 =>
  have hr : r1.1 = rdyL ((c0.1.2.2.2.2.2.2.1, c0.1.1, c0.1.2.2.2.2.2.2.2.1, c0.1.2.2.2.2.2.2.2.2.1, c0.1.2.1, c0.1.2.2.1, ()) : KD) 3 (rdyK ((c0.1.2.2.2.2.2.2.1, c0.1.1, c0.1.2.2.2.2.2.2.2.1, c0.1.2.2.2.2.2.2.2.2.1, c0.1.2.1, c0.1.2.2.1, ()) : KD)) := by rw [← hr1]; rfl
  brL fun _ : r1.1.length ≤ maxL =>
  bq (decide (((r1.1.length : Nat) : Int) < (3 : Int))) (fun h => nmd (a := bc_c.post () ((c0.1.1, c0.1.2.1, c0.1.2.2.1, ()) : EL D BS)) (fun q _ => (absurd (of_decide_eq_true h) (by have := hC0.2.1.many hf (l := lQ3 c0.1) (j := 1) rfl; rw [← hr] at this; have e : (lQ3 c0.1).length = 3 := rfl; rw [e] at this; omega) : some q.1 = some (true, ())))) (fun _ =>
  And.intro (⟨(c0.1, (0 : Nat)), rfl, rfl, rfl, ⟨Nat.zero_le _, hC0.2.1, fun z hz => ⟨1, _, rfl, by rw [← hr]; exact hz⟩⟩⟩ : Ent (db3_h (bL a.2.1) r1.1) [SV.i .i64 (0 : Int)] [] (opnEs EF QS3 eQ3 QS3 c0.1)) (
  fun (c1 : EL D QS3 × Nat) (hC1 : c1.2 ≤ r1.1.length ∧ FI (bL a.2.1) 1 (lQ3 c1.1) ∧ ∀ z ∈ r1.1, ∃ (j : Nat) (k : KD), (lQ3 c1.1)[j]? = some k ∧ z ∈ rdyL k 3 (rdyK k)) =>
  brL fun hm1 : r1.1.length ≤ maxL =>
  bq (decide ((c1.2 : Int) < ((r1.1.length : Nat) : Int))) (fun h17 =>
  have hc : c1.2 < r1.1.length := by have := of_decide_eq_true h17; omega
  have hX : ∃ (j : Nat) (k : KD), (lQ3 c1.1)[j]? = some k ∧ (r1.1.getD (c1.2 : Int).toNat (Ty.dflt D (.st 3))) ∈ rdyL k 3 (rdyK k) := hC1.2.2 _ (by rw [getD_at hc]; exact List.getElem_mem hc)
  have hW := hC1.2.1.isW hf hX
  have B0 : ∀ x, (∀ (j : Nat) (k : KD), (lQ3 c1.1)[j]? = some k → inB k x) → inB ((c1.1.2.2.2.1, c1.1.1, c1.1.2.2.2.2.1, c1.1.2.2.2.2.2.1, c1.1.2.1, c1.1.2.2.1, ()) : KD) x := fun x hx => hx 0 _ rfl
  brN (c := decide ((0 : Int) ≤ (c1.2 : Int)) && decide ((c1.2 : Int) < ((r1.1.length : Nat) : Int))) (ltB hc) (
  And.intro (Pre.mk ⟨hW.1, hC1.2.1.okK hf (l := lQ3 c1.1) (i := 0) rfl ((c1.1.2.2.2.1, c1.1.1, c1.1.2.2.2.2.1, c1.1.2.2.2.2.2.1, c1.1.2.1, c1.1.2.2.1, ()) : KD)⟩ : Pre (isW (r1.1.getD (c1.2 : Int).toNat (Ty.dflt D (.st 3))) ∧ okK ((c1.1.2.2.2.1, c1.1.1, c1.1.2.2.2.2.1, c1.1.2.2.2.2.2.1, c1.1.2.1, c1.1.2.2.1, ()) : KD))) (
  nmd (a := vch_c.post ((r1.1.getD (c1.2 : Int).toNat (Ty.dflt D (.st 3))), ()) ((c1.1.2.2.2.1, c1.1.1, c1.1.2.2.2.2.1, c1.1.2.2.2.2.2.1, c1.1.2.1, c1.1.2.2.1, ()) : KD)) (fun v0 hv0 =>
  have V0 : v0 = ((vchB ((c1.1.2.2.2.1, c1.1.1, c1.1.2.2.2.2.1, c1.1.2.2.2.2.2.1, c1.1.2.1, c1.1.2.2.1, ()) : KD) (r1.1.getD (c1.2 : Int).toNat (Ty.dflt D (.st 3))), ()), kInk ((c1.1.2.2.2.1, c1.1.1, c1.1.2.2.2.2.1, c1.1.2.2.2.2.2.1, c1.1.2.1, c1.1.2.2.1, ()) : KD) (chBytes (r1.1.getD (c1.2 : Int).toNat (Ty.dflt D (.st 3))))) := by rw [← hv0]; exact hC1.2.1.vchP hf (l := lQ3 c1.1) (i := 0) rfl ((c1.1.2.2.2.1, c1.1.1, c1.1.2.2.2.2.1, c1.1.2.2.2.2.2.1, c1.1.2.1, c1.1.2.2.1, ()) : KD) hW.2
  bq (!v0.1.1) (fun h =>
    nmd (a := bc_c.post () ((v0.2.2.1, v0.2.2.2.2.2) : EL D BS)) (fun q hq => (by
      have hm := (hC1.2.1.vouchW hf ((c1.1.2.2.2.1, c1.1.1, c1.1.2.2.2.2.1, c1.1.2.2.2.2.2.1, c1.1.2.1, c1.1.2.2.1, ()) : KD) B0 hX (l := lQ3 c1.1) (i := 0) rfl).resolve_left (fun ht => by
        have ht : vchB ((c1.1.2.2.2.1, c1.1.1, c1.1.2.2.2.2.1, c1.1.2.2.2.2.2.1, c1.1.2.1, c1.1.2.2.1, ()) : KD) (r1.1.getD (c1.2 : Int).toNat (Ty.dflt D (.st 3))) = true := ht
        rw [V0] at h
        have h : (!vchB ((c1.1.2.2.2.1, c1.1.1, c1.1.2.2.2.2.1, c1.1.2.2.2.2.2.1, c1.1.2.1, c1.1.2.2.1, ()) : KD) (r1.1.getD (c1.2 : Int).toNat (Ty.dflt D (.st 3)))) = true := h
        rw [ht] at h; exact absurd h Bool.false_ne_true)
      rw [← hq]
      exact congrArg some (cl_mo (by rw [V0]; exact hm)) : some q.1 = some (true, ())))) (fun _ =>
  have B1 : ∀ x, (∀ (j : Nat) (k : KD), (lQ3 c1.1)[j]? = some k → inB k x) → inB v0.2 x := fun x hx => by rw [V0]; exact inB_keep (B0 x hx) _
  brN (c := decide ((0 : Int) ≤ (c1.2 : Int)) && decide ((c1.2 : Int) < ((r1.1.length : Nat) : Int))) (ltB hc) (
  And.intro (Pre.mk ⟨hW.1, hC1.2.1.okK hf (l := lQ3 c1.1) (i := 1) rfl v0.2⟩ : Pre (isW (r1.1.getD (c1.2 : Int).toNat (Ty.dflt D (.st 3))) ∧ okK ((c1.1.2.2.2.2.2.2.1, v0.2.2.1, c1.1.2.2.2.2.2.2.2.1, c1.1.2.2.2.2.2.2.2.2.1, v0.2.2.2.2.2) : KD))) (
  nmd (a := vch_c.post ((r1.1.getD (c1.2 : Int).toNat (Ty.dflt D (.st 3))), ()) ((c1.1.2.2.2.2.2.2.1, v0.2.2.1, c1.1.2.2.2.2.2.2.2.1, c1.1.2.2.2.2.2.2.2.2.1, v0.2.2.2.2.2) : KD)) (fun v1 hv1 =>
  have V1 : v1 = ((vchB ((c1.1.2.2.2.2.2.2.1, v0.2.2.1, c1.1.2.2.2.2.2.2.2.1, c1.1.2.2.2.2.2.2.2.2.1, v0.2.2.2.2.2) : KD) (r1.1.getD (c1.2 : Int).toNat (Ty.dflt D (.st 3))), ()), kInk ((c1.1.2.2.2.2.2.2.1, v0.2.2.1, c1.1.2.2.2.2.2.2.2.1, c1.1.2.2.2.2.2.2.2.2.1, v0.2.2.2.2.2) : KD) (chBytes (r1.1.getD (c1.2 : Int).toNat (Ty.dflt D (.st 3))))) := by rw [← hv1]; exact hC1.2.1.vchP hf (l := lQ3 c1.1) (i := 1) rfl v0.2 hW.2
  bq (!v1.1.1) (fun h =>
    nmd (a := bc_c.post () ((v1.2.2.1, v1.2.2.2.2.2) : EL D BS)) (fun q hq => (by
      have hm := (hC1.2.1.vouchW hf v0.2 B1 hX (l := lQ3 c1.1) (i := 1) rfl).resolve_left (fun ht => by
        have ht : vchB ((c1.1.2.2.2.2.2.2.1, v0.2.2.1, c1.1.2.2.2.2.2.2.2.1, c1.1.2.2.2.2.2.2.2.2.1, v0.2.2.2.2.2) : KD) (r1.1.getD (c1.2 : Int).toNat (Ty.dflt D (.st 3))) = true := ht
        rw [V1] at h
        have h : (!vchB ((c1.1.2.2.2.2.2.2.1, v0.2.2.1, c1.1.2.2.2.2.2.2.2.1, c1.1.2.2.2.2.2.2.2.2.1, v0.2.2.2.2.2) : KD) (r1.1.getD (c1.2 : Int).toNat (Ty.dflt D (.st 3)))) = true := h
        rw [ht] at h; exact absurd h Bool.false_ne_true)
      rw [← hq]
      exact congrArg some (cl_mo (by rw [V1]; exact hm)) : some q.1 = some (true, ())))) (fun _ =>
  have B2 : ∀ x, (∀ (j : Nat) (k : KD), (lQ3 c1.1)[j]? = some k → inB k x) → inB v1.2 x := fun x hx => by rw [V1]; exact inB_keep (B1 x hx) _
  brN (c := decide ((0 : Int) ≤ (c1.2 : Int)) && decide ((c1.2 : Int) < ((r1.1.length : Nat) : Int))) (ltB hc) (
  And.intro (Pre.mk ⟨hW.1, hC1.2.1.okK hf (l := lQ3 c1.1) (i := 2) rfl v1.2⟩ : Pre (isW (r1.1.getD (c1.2 : Int).toNat (Ty.dflt D (.st 3))) ∧ okK ((c1.1.2.2.2.2.2.2.2.2.2.1, v1.2.2.1, c1.1.2.2.2.2.2.2.2.2.2.2.1, c1.1.2.2.2.2.2.2.2.2.2.2.2.1, v1.2.2.2.2.2) : KD))) (
  nmd (a := vch_c.post ((r1.1.getD (c1.2 : Int).toNat (Ty.dflt D (.st 3))), ()) ((c1.1.2.2.2.2.2.2.2.2.2.1, v1.2.2.1, c1.1.2.2.2.2.2.2.2.2.2.2.1, c1.1.2.2.2.2.2.2.2.2.2.2.2.1, v1.2.2.2.2.2) : KD)) (fun v2 hv2 =>
  have V2 : v2 = ((vchB ((c1.1.2.2.2.2.2.2.2.2.2.1, v1.2.2.1, c1.1.2.2.2.2.2.2.2.2.2.2.1, c1.1.2.2.2.2.2.2.2.2.2.2.2.1, v1.2.2.2.2.2) : KD) (r1.1.getD (c1.2 : Int).toNat (Ty.dflt D (.st 3))), ()), kInk ((c1.1.2.2.2.2.2.2.2.2.2.1, v1.2.2.1, c1.1.2.2.2.2.2.2.2.2.2.2.1, c1.1.2.2.2.2.2.2.2.2.2.2.2.1, v1.2.2.2.2.2) : KD) (chBytes (r1.1.getD (c1.2 : Int).toNat (Ty.dflt D (.st 3))))) := by rw [← hv2]; exact hC1.2.1.vchP hf (l := lQ3 c1.1) (i := 2) rfl v1.2 hW.2
  bq (!v2.1.1) (fun h =>
    nmd (a := bc_c.post () ((v2.2.2.1, v2.2.2.2.2.2) : EL D BS)) (fun q hq => (by
      have hm := (hC1.2.1.vouchW hf v1.2 B2 hX (l := lQ3 c1.1) (i := 2) rfl).resolve_left (fun ht => by
        have ht : vchB ((c1.1.2.2.2.2.2.2.2.2.2.1, v1.2.2.1, c1.1.2.2.2.2.2.2.2.2.2.2.1, c1.1.2.2.2.2.2.2.2.2.2.2.2.1, v1.2.2.2.2.2) : KD) (r1.1.getD (c1.2 : Int).toNat (Ty.dflt D (.st 3))) = true := ht
        rw [V2] at h
        have h : (!vchB ((c1.1.2.2.2.2.2.2.2.2.2.1, v1.2.2.1, c1.1.2.2.2.2.2.2.2.2.2.2.1, c1.1.2.2.2.2.2.2.2.2.2.2.2.1, v1.2.2.2.2.2) : KD) (r1.1.getD (c1.2 : Int).toNat (Ty.dflt D (.st 3)))) = true := h
        rw [ht] at h; exact absurd h Bool.false_ne_true)
      rw [← hq]
      exact congrArg some (cl_mo (by rw [V2]; exact hm)) : some q.1 = some (true, ())))) (fun _ =>
  have B3 : ∀ x, (∀ (j : Nat) (k : KD), (lQ3 c1.1)[j]? = some k → inB k x) → inB v2.2 x := fun x hx => by rw [V2]; exact inB_keep (B2 x hx) _
  have hl : lQ3 ((v2.2.2.1, kSn v2.2, kMo v2.2, v0.2.1, kCh v0.2, kAk v0.2, v1.2.1, kCh v1.2, kAk v1.2, v2.2.1, kCh v2.2, kAk v2.2, ()) : EL D QS3) = (lQ3 c1.1).map fun k => wb k v2.2 := by rw [V2, V1, V0]; rfl
  (⟨(((v2.2.2.1, kSn v2.2, kMo v2.2, v0.2.1, kCh v0.2, kAk v0.2, v1.2.1, kCh v1.2, kAk v1.2, v2.2.1, kCh v2.2, kAk v2.2, ()) : EL D QS3), c1.2 + 1), by
      show [SV.i .i64 (IntKind.wrap .i64 ((c1.2 : Int) + 1))] = [iv ((c1.2 + 1 : Nat) : Int)]
      rw [wrap1 hc hm1], rfl, rfl, ⟨hc, by rw [hl]; exact hC1.2.1.map v2.2 B3, fun z hz => by
        obtain ⟨j, k, h1, h2⟩ := hC1.2.2 z hz
        exact ⟨j, wb k v2.2, by rw [hl, List.getElem?_map, h1]; rfl, h2⟩⟩, by show r1.1.length - (c1.2 + 1) < r1.1.length - c1.2; omega⟩ : Rnd (db3_h (bL a.2.1) r1.1) c1 [SV.i .i64 (IntKind.wrap .i64 ((c1.2 : Int) + 1))] [] (opnEs EF QS3 eQ3 QS3 ((v2.2.2.1, kSn v2.2, kMo v2.2, v0.2.1, kCh v0.2, kAk v0.2, v1.2.1, kCh v1.2, kAk v1.2, v2.2.1, kCh v2.2, kAk v2.2, ()) : EL D QS3)))))))))))))))) (fun _ =>
  And.intro (Pre.mk (hC1.2.1.okK0 hf (l := lQ3 c1.1) (i := 2) rfl) : Pre (okK ((c1.1.2.2.2.2.2.2.2.2.2.1, c1.1.1, c1.1.2.2.2.2.2.2.2.2.2.2.1, c1.1.2.2.2.2.2.2.2.2.2.2.2.1, c1.1.2.1, c1.1.2.2.1, ()) : KD))) (
  nmd (a := (rdy_c.post ((3 : Int), ()) ((c1.1.2.2.2.2.2.2.2.2.2.1, c1.1.1, c1.1.2.2.2.2.2.2.2.2.2.2.1, c1.1.2.2.2.2.2.2.2.2.2.2.2.1, c1.1.2.1, c1.1.2.2.1, ()) : KD)).1) (fun r2 hr2 =>
  have hr : r2.1 = rdyL ((c1.1.2.2.2.2.2.2.2.2.2.1, c1.1.1, c1.1.2.2.2.2.2.2.2.2.2.2.1, c1.1.2.2.2.2.2.2.2.2.2.2.2.1, c1.1.2.1, c1.1.2.2.1, ()) : KD) 3 (rdyK ((c1.1.2.2.2.2.2.2.2.2.2.1, c1.1.1, c1.1.2.2.2.2.2.2.2.2.2.2.1, c1.1.2.2.2.2.2.2.2.2.2.2.2.1, c1.1.2.1, c1.1.2.2.1, ()) : KD)) := by rw [← hr2]; rfl
  brL fun _ : r2.1.length ≤ maxL =>
  bq (decide (((r2.1.length : Nat) : Int) < (3 : Int))) (fun h => nmd (a := bc_c.post () ((c1.1.1, c1.1.2.1, c1.1.2.2.1, ()) : EL D BS)) (fun q _ => (absurd (of_decide_eq_true h) (by have := hC1.2.1.many hf (l := lQ3 c1.1) (j := 2) rfl; rw [← hr] at this; have e : (lQ3 c1.1).length = 3 := rfl; rw [e] at this; omega) : some q.1 = some (true, ())))) (fun _ =>
  And.intro (⟨(c1.1, (0 : Nat)), rfl, rfl, rfl, ⟨Nat.zero_le _, hC1.2.1, fun z hz => ⟨2, _, rfl, by rw [← hr]; exact hz⟩⟩⟩ : Ent (db3_h (bL a.2.1) r2.1) [SV.i .i64 (0 : Int)] [] (opnEs EF QS3 eQ3 QS3 c1.1)) (
  fun (c2 : EL D QS3 × Nat) (hC2 : c2.2 ≤ r2.1.length ∧ FI (bL a.2.1) 1 (lQ3 c2.1) ∧ ∀ z ∈ r2.1, ∃ (j : Nat) (k : KD), (lQ3 c2.1)[j]? = some k ∧ z ∈ rdyL k 3 (rdyK k)) =>
  brL fun hm2 : r2.1.length ≤ maxL =>
  bq (decide ((c2.2 : Int) < ((r2.1.length : Nat) : Int))) (fun h17 =>
  have hc : c2.2 < r2.1.length := by have := of_decide_eq_true h17; omega
  have hX : ∃ (j : Nat) (k : KD), (lQ3 c2.1)[j]? = some k ∧ (r2.1.getD (c2.2 : Int).toNat (Ty.dflt D (.st 3))) ∈ rdyL k 3 (rdyK k) := hC2.2.2 _ (by rw [getD_at hc]; exact List.getElem_mem hc)
  have hW := hC2.2.1.isW hf hX
  have B0 : ∀ x, (∀ (j : Nat) (k : KD), (lQ3 c2.1)[j]? = some k → inB k x) → inB ((c2.1.2.2.2.1, c2.1.1, c2.1.2.2.2.2.1, c2.1.2.2.2.2.2.1, c2.1.2.1, c2.1.2.2.1, ()) : KD) x := fun x hx => hx 0 _ rfl
  brN (c := decide ((0 : Int) ≤ (c2.2 : Int)) && decide ((c2.2 : Int) < ((r2.1.length : Nat) : Int))) (ltB hc) (
  And.intro (Pre.mk ⟨hW.1, hC2.2.1.okK hf (l := lQ3 c2.1) (i := 0) rfl ((c2.1.2.2.2.1, c2.1.1, c2.1.2.2.2.2.1, c2.1.2.2.2.2.2.1, c2.1.2.1, c2.1.2.2.1, ()) : KD)⟩ : Pre (isW (r2.1.getD (c2.2 : Int).toNat (Ty.dflt D (.st 3))) ∧ okK ((c2.1.2.2.2.1, c2.1.1, c2.1.2.2.2.2.1, c2.1.2.2.2.2.2.1, c2.1.2.1, c2.1.2.2.1, ()) : KD))) (
  nmd (a := vch_c.post ((r2.1.getD (c2.2 : Int).toNat (Ty.dflt D (.st 3))), ()) ((c2.1.2.2.2.1, c2.1.1, c2.1.2.2.2.2.1, c2.1.2.2.2.2.2.1, c2.1.2.1, c2.1.2.2.1, ()) : KD)) (fun v0 hv0 =>
  have V0 : v0 = ((vchB ((c2.1.2.2.2.1, c2.1.1, c2.1.2.2.2.2.1, c2.1.2.2.2.2.2.1, c2.1.2.1, c2.1.2.2.1, ()) : KD) (r2.1.getD (c2.2 : Int).toNat (Ty.dflt D (.st 3))), ()), kInk ((c2.1.2.2.2.1, c2.1.1, c2.1.2.2.2.2.1, c2.1.2.2.2.2.2.1, c2.1.2.1, c2.1.2.2.1, ()) : KD) (chBytes (r2.1.getD (c2.2 : Int).toNat (Ty.dflt D (.st 3))))) := by rw [← hv0]; exact hC2.2.1.vchP hf (l := lQ3 c2.1) (i := 0) rfl ((c2.1.2.2.2.1, c2.1.1, c2.1.2.2.2.2.1, c2.1.2.2.2.2.2.1, c2.1.2.1, c2.1.2.2.1, ()) : KD) hW.2
  bq (!v0.1.1) (fun h =>
    nmd (a := bc_c.post () ((v0.2.2.1, v0.2.2.2.2.2) : EL D BS)) (fun q hq => (by
      have hm := (hC2.2.1.vouchW hf ((c2.1.2.2.2.1, c2.1.1, c2.1.2.2.2.2.1, c2.1.2.2.2.2.2.1, c2.1.2.1, c2.1.2.2.1, ()) : KD) B0 hX (l := lQ3 c2.1) (i := 0) rfl).resolve_left (fun ht => by
        have ht : vchB ((c2.1.2.2.2.1, c2.1.1, c2.1.2.2.2.2.1, c2.1.2.2.2.2.2.1, c2.1.2.1, c2.1.2.2.1, ()) : KD) (r2.1.getD (c2.2 : Int).toNat (Ty.dflt D (.st 3))) = true := ht
        rw [V0] at h
        have h : (!vchB ((c2.1.2.2.2.1, c2.1.1, c2.1.2.2.2.2.1, c2.1.2.2.2.2.2.1, c2.1.2.1, c2.1.2.2.1, ()) : KD) (r2.1.getD (c2.2 : Int).toNat (Ty.dflt D (.st 3)))) = true := h
        rw [ht] at h; exact absurd h Bool.false_ne_true)
      rw [← hq]
      exact congrArg some (cl_mo (by rw [V0]; exact hm)) : some q.1 = some (true, ())))) (fun _ =>
  have B1 : ∀ x, (∀ (j : Nat) (k : KD), (lQ3 c2.1)[j]? = some k → inB k x) → inB v0.2 x := fun x hx => by rw [V0]; exact inB_keep (B0 x hx) _
  brN (c := decide ((0 : Int) ≤ (c2.2 : Int)) && decide ((c2.2 : Int) < ((r2.1.length : Nat) : Int))) (ltB hc) (
  And.intro (Pre.mk ⟨hW.1, hC2.2.1.okK hf (l := lQ3 c2.1) (i := 1) rfl v0.2⟩ : Pre (isW (r2.1.getD (c2.2 : Int).toNat (Ty.dflt D (.st 3))) ∧ okK ((c2.1.2.2.2.2.2.2.1, v0.2.2.1, c2.1.2.2.2.2.2.2.2.1, c2.1.2.2.2.2.2.2.2.2.1, v0.2.2.2.2.2) : KD))) (
  nmd (a := vch_c.post ((r2.1.getD (c2.2 : Int).toNat (Ty.dflt D (.st 3))), ()) ((c2.1.2.2.2.2.2.2.1, v0.2.2.1, c2.1.2.2.2.2.2.2.2.1, c2.1.2.2.2.2.2.2.2.2.1, v0.2.2.2.2.2) : KD)) (fun v1 hv1 =>
  have V1 : v1 = ((vchB ((c2.1.2.2.2.2.2.2.1, v0.2.2.1, c2.1.2.2.2.2.2.2.2.1, c2.1.2.2.2.2.2.2.2.2.1, v0.2.2.2.2.2) : KD) (r2.1.getD (c2.2 : Int).toNat (Ty.dflt D (.st 3))), ()), kInk ((c2.1.2.2.2.2.2.2.1, v0.2.2.1, c2.1.2.2.2.2.2.2.2.1, c2.1.2.2.2.2.2.2.2.2.1, v0.2.2.2.2.2) : KD) (chBytes (r2.1.getD (c2.2 : Int).toNat (Ty.dflt D (.st 3))))) := by rw [← hv1]; exact hC2.2.1.vchP hf (l := lQ3 c2.1) (i := 1) rfl v0.2 hW.2
  bq (!v1.1.1) (fun h =>
    nmd (a := bc_c.post () ((v1.2.2.1, v1.2.2.2.2.2) : EL D BS)) (fun q hq => (by
      have hm := (hC2.2.1.vouchW hf v0.2 B1 hX (l := lQ3 c2.1) (i := 1) rfl).resolve_left (fun ht => by
        have ht : vchB ((c2.1.2.2.2.2.2.2.1, v0.2.2.1, c2.1.2.2.2.2.2.2.2.1, c2.1.2.2.2.2.2.2.2.2.1, v0.2.2.2.2.2) : KD) (r2.1.getD (c2.2 : Int).toNat (Ty.dflt D (.st 3))) = true := ht
        rw [V1] at h
        have h : (!vchB ((c2.1.2.2.2.2.2.2.1, v0.2.2.1, c2.1.2.2.2.2.2.2.2.1, c2.1.2.2.2.2.2.2.2.2.1, v0.2.2.2.2.2) : KD) (r2.1.getD (c2.2 : Int).toNat (Ty.dflt D (.st 3)))) = true := h
        rw [ht] at h; exact absurd h Bool.false_ne_true)
      rw [← hq]
      exact congrArg some (cl_mo (by rw [V1]; exact hm)) : some q.1 = some (true, ())))) (fun _ =>
  have B2 : ∀ x, (∀ (j : Nat) (k : KD), (lQ3 c2.1)[j]? = some k → inB k x) → inB v1.2 x := fun x hx => by rw [V1]; exact inB_keep (B1 x hx) _
  brN (c := decide ((0 : Int) ≤ (c2.2 : Int)) && decide ((c2.2 : Int) < ((r2.1.length : Nat) : Int))) (ltB hc) (
  And.intro (Pre.mk ⟨hW.1, hC2.2.1.okK hf (l := lQ3 c2.1) (i := 2) rfl v1.2⟩ : Pre (isW (r2.1.getD (c2.2 : Int).toNat (Ty.dflt D (.st 3))) ∧ okK ((c2.1.2.2.2.2.2.2.2.2.2.1, v1.2.2.1, c2.1.2.2.2.2.2.2.2.2.2.2.1, c2.1.2.2.2.2.2.2.2.2.2.2.2.1, v1.2.2.2.2.2) : KD))) (
  nmd (a := vch_c.post ((r2.1.getD (c2.2 : Int).toNat (Ty.dflt D (.st 3))), ()) ((c2.1.2.2.2.2.2.2.2.2.2.1, v1.2.2.1, c2.1.2.2.2.2.2.2.2.2.2.2.1, c2.1.2.2.2.2.2.2.2.2.2.2.2.1, v1.2.2.2.2.2) : KD)) (fun v2 hv2 =>
  have V2 : v2 = ((vchB ((c2.1.2.2.2.2.2.2.2.2.2.1, v1.2.2.1, c2.1.2.2.2.2.2.2.2.2.2.2.1, c2.1.2.2.2.2.2.2.2.2.2.2.2.1, v1.2.2.2.2.2) : KD) (r2.1.getD (c2.2 : Int).toNat (Ty.dflt D (.st 3))), ()), kInk ((c2.1.2.2.2.2.2.2.2.2.2.1, v1.2.2.1, c2.1.2.2.2.2.2.2.2.2.2.2.1, c2.1.2.2.2.2.2.2.2.2.2.2.2.1, v1.2.2.2.2.2) : KD) (chBytes (r2.1.getD (c2.2 : Int).toNat (Ty.dflt D (.st 3))))) := by rw [← hv2]; exact hC2.2.1.vchP hf (l := lQ3 c2.1) (i := 2) rfl v1.2 hW.2
  bq (!v2.1.1) (fun h =>
    nmd (a := bc_c.post () ((v2.2.2.1, v2.2.2.2.2.2) : EL D BS)) (fun q hq => (by
      have hm := (hC2.2.1.vouchW hf v1.2 B2 hX (l := lQ3 c2.1) (i := 2) rfl).resolve_left (fun ht => by
        have ht : vchB ((c2.1.2.2.2.2.2.2.2.2.2.1, v1.2.2.1, c2.1.2.2.2.2.2.2.2.2.2.2.1, c2.1.2.2.2.2.2.2.2.2.2.2.2.1, v1.2.2.2.2.2) : KD) (r2.1.getD (c2.2 : Int).toNat (Ty.dflt D (.st 3))) = true := ht
        rw [V2] at h
        have h : (!vchB ((c2.1.2.2.2.2.2.2.2.2.2.1, v1.2.2.1, c2.1.2.2.2.2.2.2.2.2.2.2.1, c2.1.2.2.2.2.2.2.2.2.2.2.2.1, v1.2.2.2.2.2) : KD) (r2.1.getD (c2.2 : Int).toNat (Ty.dflt D (.st 3)))) = true := h
        rw [ht] at h; exact absurd h Bool.false_ne_true)
      rw [← hq]
      exact congrArg some (cl_mo (by rw [V2]; exact hm)) : some q.1 = some (true, ())))) (fun _ =>
  have B3 : ∀ x, (∀ (j : Nat) (k : KD), (lQ3 c2.1)[j]? = some k → inB k x) → inB v2.2 x := fun x hx => by rw [V2]; exact inB_keep (B2 x hx) _
  have hl : lQ3 ((v2.2.2.1, kSn v2.2, kMo v2.2, v0.2.1, kCh v0.2, kAk v0.2, v1.2.1, kCh v1.2, kAk v1.2, v2.2.1, kCh v2.2, kAk v2.2, ()) : EL D QS3) = (lQ3 c2.1).map fun k => wb k v2.2 := by rw [V2, V1, V0]; rfl
  (⟨(((v2.2.2.1, kSn v2.2, kMo v2.2, v0.2.1, kCh v0.2, kAk v0.2, v1.2.1, kCh v1.2, kAk v1.2, v2.2.1, kCh v2.2, kAk v2.2, ()) : EL D QS3), c2.2 + 1), by
      show [SV.i .i64 (IntKind.wrap .i64 ((c2.2 : Int) + 1))] = [iv ((c2.2 + 1 : Nat) : Int)]
      rw [wrap1 hc hm2], rfl, rfl, ⟨hc, by rw [hl]; exact hC2.2.1.map v2.2 B3, fun z hz => by
        obtain ⟨j, k, h1, h2⟩ := hC2.2.2 z hz
        exact ⟨j, wb k v2.2, by rw [hl, List.getElem?_map, h1]; rfl, h2⟩⟩, by show r2.1.length - (c2.2 + 1) < r2.1.length - c2.2; omega⟩ : Rnd (db3_h (bL a.2.1) r2.1) c2 [SV.i .i64 (IntKind.wrap .i64 ((c2.2 : Int) + 1))] [] (opnEs EF QS3 eQ3 QS3 ((v2.2.2.1, kSn v2.2, kMo v2.2, v0.2.1, kCh v0.2, kAk v0.2, v1.2.1, kCh v1.2, kAk v1.2, v2.2.1, kCh v2.2, kAk v2.2, ()) : EL D QS3)))))))))))))))) (fun _ =>
  (rfl : some (true, ()) = some (true, ()))))))))))))))))))))))))))))))))))))))))))))))))))))))
end Go.Proofs.YtpbcabanpppfoaaGreat
