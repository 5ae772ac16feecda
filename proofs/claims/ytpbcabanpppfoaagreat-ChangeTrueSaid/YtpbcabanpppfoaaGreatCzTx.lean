/- Walks by reckoning: what a function of data gives gets a name. No condition. -/
import Derived.Test.YtpbcabanpppfoaaGreatVzGen
import Derived.Test.YtpbcabanpppfoaaGreatCzTr
import Derived.Test.YtpbcabanpppfoaaGreatCzAw
set_option linter.all false
namespace Go.Vz
open Go Go.Gx
variable {E : DE} {P : Program} (F : DF E) (Z : ZF P E)
def conN (Γ : Nat → Option (Con E)) (els : CallH E) : CallH E := fun f l s K => match Γ f with
  | some c => match frzs s l with
    | some s1 => match shutVs F s1.bs c.ts (l.map (rsv s1.hp)) with
      | some a => match c.pre with
        | none => Nmd (c.ret a) fun q => K s1 (outV F c.rt q)
        | some p => Pre (p a) ∧ Nmd (c.ret a) fun q => K s1 (outV F c.rt q)
      | none => No f
    | none => No f
  | none => els f l s K
variable {F}
theorem conN_h {Γ : Nat → Option (Con E)} {els : CallH E} {f : Nat} {l : List (SV E)} {s : St E} {K : St E → SV E → Prop} (h : conN F Γ els f l s K) : conH F Γ els f l s K := by
  unfold conN at h
  unfold conH
  cases hc : Γ f with
  | none => simp only [hc] at h ⊢; exact h
  | some c =>
    simp only [hc] at h ⊢
    cases hs : frzs s l with
    | none => simp only [hs] at h; exact h.elim
    | some s1 =>
      simp only [hs] at h ⊢
      cases ha : shutVs F s1.bs c.ts (l.map (rsv s1.hp)) with
      | none => simp only [ha] at h; exact h.elim
      | some a =>
        simp only [ha] at h ⊢
        cases hq : c.pre with
        | none => simp only [hq] at h ⊢; obtain ⟨h⟩ := h; exact h _ rfl
        | some p => simp only [hq] at h ⊢; obtain ⟨h1, ⟨h⟩⟩ := h; exact ⟨h1, h _ rfl⟩
theorem conN_ok {Γ : Nat → Option (Con E)} (hΓ : ∀ f c, Γ f = some c → c.ok P f) {els : CallH E} (he : CallAll P els) : CallAll P (conN F Γ els) :=
  fun w0 G0 f args s K m w vs rh hl hv h => conH_ok F hΓ he w0 G0 f args s K m w vs rh hl hv (conN_h h)

end Go.Vz

namespace Go.Proofs.YtpbcabanpppfoaaGreat
open Go Go.Gx Go.Vz
set_option maxRecDepth 100000
abbrev ΓB : Nat → Option (Con D) := addC noC 9 bring_c
theorem KB : Kept EF Tryz.prog ΓB noO := K0.c bring_ok
/-- Calls of the statements. -/
noncomputable abbrev callW (Γ : Nat → Option (Con D)) (Δ : Nat → Option (OCon D)) (H : Nat → Nat → Option (Hint D)) (n : Nat) : CallH D := conN EF ΓB (callsG EF ZL ΛL Γ Δ H n)
theorem callW_ok {Γ : Nat → Option (Con D)} {Δ : Nat → Option (OCon D)} (h : Kept EF Tryz.prog Γ Δ) (H : Nat → Nat → Option (Hint D)) (n : Nat) : CallAll Tryz.prog (callW Γ Δ H n) := conN_ok KB.g (callsG_ok Ll h n)
end Go.Proofs.YtpbcabanpppfoaaGreat

namespace Go.Proofs.YtpbcabanpppfoaaGreat
open Go Go.Gx Go.Vz
set_option maxRecDepth 100000
section
variable {f : Int} (hf : f = 1 ∨ f = 2) {w : Word} {q : Int × Unit}
theorem wE0 (hf : f = 1 ∨ f = 2) : IntKind.wrap .i64 (IntKind.wrap .i64 ((3 : Int) * f) + 1) = 3 * f + 1 := by rcases hf with rfl | rfl <;> rfl
theorem wI {x : Int} (h1 : 0 ≤ x) (h2 : x ≤ 100) : IntKind.wrap .i64 x = x := IntWalk.i64_in _ (by omega)
theorem wE1 (hf : f = 1 ∨ f = 2) (h : bring_c.ret (w.sender, IntKind.wrap .i64 (IntKind.wrap .i64 ((3 : Int) * f) + 1), ()) = q) : IntKind.wrap .i64 ((1 : Int) + q.1) = wFr f w := by
  rw [wE0 hf] at h
  have e : q.1 = brg w.sender (3 * f + 1) := by rw [← h]; rfl
  have := wFr_ok hf (w := w)
  rw [e]; exact wI (by unfold wFr at this; omega) (by unfold wFr at this; omega)
theorem wE2 (hf : f = 1 ∨ f = 2) (h : bring_c.ret (w.node, IntKind.wrap .i64 (IntKind.wrap .i64 ((3 : Int) * f) + 1), ()) = q) : IntKind.wrap .i64 ((1 : Int) + q.1) = wN0 f w := by
  rw [wE0 hf] at h
  have e : q.1 = brg w.node (3 * f + 1) := by rw [← h]; rfl
  have := wN0_ok hf (w := w)
  rw [e]; exact wI (by unfold wN0 at this; omega) (by unfold wN0 at this; omega)
theorem wE3 (h : bring_c.ret (w.view, (4 : Int), ()) = q) : IntKind.wrap .i64 ((1 : Int) + q.1) = wVw w := by
  have e : q.1 = brg w.view 4 := by rw [← h]; rfl
  have := wVw_ok (w := w)
  rw [e]; exact wI (by unfold wVw at this; omega) (by unfold wVw at this; omega)
theorem wE4 (hf : f = 1 ∨ f = 2) : IntKind.wrap .i64 ((1 : Int) + Int.tmod (wN0 f w) (3 * f + 1)) = 1 + Int.tmod (wN0 f w) (3 * f + 1) := by
  have h := wN0_ok hf (w := w)
  have := wTm_ok hf h.1 h.2
  exact wI (by omega) (by omega)
theorem wS (hf : f = 1 ∨ f = 2) {n : Int} {b : UInt8} (h : wNd f w = n) : isW (says n (wVw w) b) := by
  have h1 := wNd_ok hf (w := w)
  have h2 := wVw_ok (w := w)
  rw [← h]; exact saysW h1.1 (by omega) h2.1 (by omega)
end
/-! ### 18 Word.change -/
def wc_c : Con D := { ts := [.st 12, .int], rt := [.st 3], pre := some (fun a => a.2.1 = 1 ∨ a.2.1 = 2), ret := fun a => (wCh a.2.1 a.1, ()) }
theorem wc_ok : wc_c.ok Tryz.prog 18 := Con.proveH (c := wc_c) EF ZL (H := fun _ _ _ => none) (call := fun _ => callW ΓL ΔM (fun _ _ => none) 4) (fun _ => callW_ok KM1 _ 4) fun (a : HL D wc_c.ts) (hp : wc_c.holds a) =>
  have hf : a.2.1 = 1 ∨ a.2.1 = 2 := hp
  nmd (a := bring_c.ret (a.1.sender, (IntKind.wrap .i64 (IntKind.wrap .i64 ((3 : Int) * a.2.1) + (1 : Int))), ())) (fun q1 h1 =>
  nmd (a := bring_c.ret (a.1.node, (IntKind.wrap .i64 (IntKind.wrap .i64 ((3 : Int) * a.2.1) + (1 : Int))), ())) (fun q2 h2 =>
  nmd (a := bring_c.ret (a.1.view, (4 : Int), ())) (fun q3 h3 =>
  have E0 := wE0 hf
  have E1 := wE1 hf h1
  have E2 := wE2 hf h2
  have E3 := wE3 h3
  have E4 := wE4 hf (w := a.1)
  bq (!a.1.acks) (fun h4 =>
 bq (decide ((IntKind.wrap .i64 ((1 : Int) + q1.1)) ≤ a.2.1)) (fun h5 =>
 (by simp only [E0, E1, E2, E3, E4, Bool.not_eq_eq_eq_not, Bool.not_true, Bool.not_false] at h4 h5 ⊢; first | (simp [wCh, wNd, wBy, h4, h5]; done) | (simp_all; done) : some (says (IntKind.wrap .i64 ((1 : Int) + q1.1)) (IntKind.wrap .i64 ((1 : Int) + q3.1)) a.1.b, ()) = some (wCh a.2.1 a.1, ()))) (fun h5 =>
 bq (a.1.acks) (fun h6 =>
 bq (decide ((IntKind.wrap .i64 ((1 : Int) + q1.1)) ≤ a.2.1)) (fun h7 =>
 (by simp only [E0, E1, E2, E3, E4, Bool.not_eq_eq_eq_not, Bool.not_true, Bool.not_false] at h4 h5 h6 h7 ⊢; first | (simp [wCh, wNd, wBy, h4, h5, h6, h7]; done) | (simp_all; done) : some (says (IntKind.wrap .i64 ((1 : Int) + q1.1)) (IntKind.wrap .i64 ((1 : Int) + q3.1)) a.1.b, ()) = some (wCh a.2.1 a.1, ()))) (fun h7 =>
 (by simp only [E0, E1, E2, E3, E4, Bool.not_eq_eq_eq_not, Bool.not_true, Bool.not_false] at h4 h5 h6 h7 ⊢; first | (simp [wCh, wNd, wBy, h4, h5, h6, h7]; done) | (simp_all; done) : some (says (IntKind.wrap .i64 ((1 : Int) + q1.1)) (IntKind.wrap .i64 ((1 : Int) + q3.1)) (byt (IntKind.wrap .i64 ((1 : Int) + q1.1))), ()) = some (wCh a.2.1 a.1, ())))) (fun h6 =>
 (by simp only [E0, E1, E2, E3, E4, Bool.not_eq_eq_eq_not, Bool.not_true, Bool.not_false] at h4 h5 h6 ⊢; first | (simp [wCh, wNd, wBy, h4, h5, h6]; done) | (simp_all; done) : some (says (IntKind.wrap .i64 ((1 : Int) + q1.1)) (IntKind.wrap .i64 ((1 : Int) + q3.1)) (byt (IntKind.wrap .i64 ((1 : Int) + q1.1))), ()) = some (wCh a.2.1 a.1, ()))))) (fun h4 =>
 bq ((IntKind.wrap .i64 ((1 : Int) + q2.1)) == (IntKind.wrap .i64 ((1 : Int) + q1.1))) (fun h5 =>
 brN (c := (IntKind.wrap .i64 (IntKind.wrap .i64 ((3 : Int) * a.2.1) + (1 : Int))) != (0 : Int)) (by rw [E0]; rcases hf with h | h <;> rw [h] <;> decide) (
 bq (decide ((IntKind.wrap .i64 ((1 : Int) + Int.tmod (IntKind.wrap .i64 ((1 : Int) + q2.1)) (IntKind.wrap .i64 (IntKind.wrap .i64 ((3 : Int) * a.2.1) + (1 : Int))))) ≤ a.2.1)) (fun h6 =>
 (by simp only [E0, E1, E2, E3, E4, Bool.not_eq_eq_eq_not, Bool.not_true, Bool.not_false] at h4 h5 h6 ⊢; first | (simp [wCh, wNd, wBy, h4, h5, h6]; done) | (simp_all; done) : some (says (IntKind.wrap .i64 ((1 : Int) + Int.tmod (IntKind.wrap .i64 ((1 : Int) + q2.1)) (IntKind.wrap .i64 (IntKind.wrap .i64 ((3 : Int) * a.2.1) + (1 : Int))))) (IntKind.wrap .i64 ((1 : Int) + q3.1)) a.1.b, ()) = some (wCh a.2.1 a.1, ()))) (fun h6 =>
 bq (a.1.acks) (fun h7 =>
 bq (decide ((IntKind.wrap .i64 ((1 : Int) + q1.1)) ≤ a.2.1)) (fun h8 =>
 (by simp only [E0, E1, E2, E3, E4, Bool.not_eq_eq_eq_not, Bool.not_true, Bool.not_false] at h4 h5 h6 h7 h8 ⊢; first | (simp [wCh, wNd, wBy, h4, h5, h6, h7, h8]; done) | (simp_all; done) : some (says (IntKind.wrap .i64 ((1 : Int) + Int.tmod (IntKind.wrap .i64 ((1 : Int) + q2.1)) (IntKind.wrap .i64 (IntKind.wrap .i64 ((3 : Int) * a.2.1) + (1 : Int))))) (IntKind.wrap .i64 ((1 : Int) + q3.1)) a.1.b, ()) = some (wCh a.2.1 a.1, ()))) (fun h8 =>
 (by simp only [E0, E1, E2, E3, E4, Bool.not_eq_eq_eq_not, Bool.not_true, Bool.not_false] at h4 h5 h6 h7 h8 ⊢; first | (simp [wCh, wNd, wBy, h4, h5, h6, h7, h8]; done) | (simp_all; done) : some (says (IntKind.wrap .i64 ((1 : Int) + Int.tmod (IntKind.wrap .i64 ((1 : Int) + q2.1)) (IntKind.wrap .i64 (IntKind.wrap .i64 ((3 : Int) * a.2.1) + (1 : Int))))) (IntKind.wrap .i64 ((1 : Int) + q3.1)) (byt (IntKind.wrap .i64 ((1 : Int) + Int.tmod (IntKind.wrap .i64 ((1 : Int) + q2.1)) (IntKind.wrap .i64 (IntKind.wrap .i64 ((3 : Int) * a.2.1) + (1 : Int)))))), ()) = some (wCh a.2.1 a.1, ())))) (fun h7 =>
 (by simp only [E0, E1, E2, E3, E4, Bool.not_eq_eq_eq_not, Bool.not_true, Bool.not_false] at h4 h5 h6 h7 ⊢; first | (simp [wCh, wNd, wBy, h4, h5, h6, h7]; done) | (simp_all; done) : some (says (IntKind.wrap .i64 ((1 : Int) + Int.tmod (IntKind.wrap .i64 ((1 : Int) + q2.1)) (IntKind.wrap .i64 (IntKind.wrap .i64 ((3 : Int) * a.2.1) + (1 : Int))))) (IntKind.wrap .i64 ((1 : Int) + q3.1)) (byt (IntKind.wrap .i64 ((1 : Int) + Int.tmod (IntKind.wrap .i64 ((1 : Int) + q2.1)) (IntKind.wrap .i64 (IntKind.wrap .i64 ((3 : Int) * a.2.1) + (1 : Int)))))), ()) = some (wCh a.2.1 a.1, ())))))) (fun h5 =>
 bq (decide ((IntKind.wrap .i64 ((1 : Int) + q2.1)) ≤ a.2.1)) (fun h6 =>
 (by simp only [E0, E1, E2, E3, E4, Bool.not_eq_eq_eq_not, Bool.not_true, Bool.not_false] at h4 h5 h6 ⊢; first | (simp [wCh, wNd, wBy, h4, h5, h6]; done) | (simp_all; done) : some (says (IntKind.wrap .i64 ((1 : Int) + q2.1)) (IntKind.wrap .i64 ((1 : Int) + q3.1)) a.1.b, ()) = some (wCh a.2.1 a.1, ()))) (fun h6 =>
 bq (a.1.acks) (fun h7 =>
 bq (decide ((IntKind.wrap .i64 ((1 : Int) + q1.1)) ≤ a.2.1)) (fun h8 =>
 (by simp only [E0, E1, E2, E3, E4, Bool.not_eq_eq_eq_not, Bool.not_true, Bool.not_false] at h4 h5 h6 h7 h8 ⊢; first | (simp [wCh, wNd, wBy, h4, h5, h6, h7, h8]; done) | (simp_all; done) : some (says (IntKind.wrap .i64 ((1 : Int) + q2.1)) (IntKind.wrap .i64 ((1 : Int) + q3.1)) a.1.b, ()) = some (wCh a.2.1 a.1, ()))) (fun h8 =>
 (by simp only [E0, E1, E2, E3, E4, Bool.not_eq_eq_eq_not, Bool.not_true, Bool.not_false] at h4 h5 h6 h7 h8 ⊢; first | (simp [wCh, wNd, wBy, h4, h5, h6, h7, h8]; done) | (simp_all; done) : some (says (IntKind.wrap .i64 ((1 : Int) + q2.1)) (IntKind.wrap .i64 ((1 : Int) + q3.1)) (byt (IntKind.wrap .i64 ((1 : Int) + q2.1))), ()) = some (wCh a.2.1 a.1, ())))) (fun h7 =>
 (by simp only [E0, E1, E2, E3, E4, Bool.not_eq_eq_eq_not, Bool.not_true, Bool.not_false] at h4 h5 h6 h7 ⊢; first | (simp [wCh, wNd, wBy, h4, h5, h6, h7]; done) | (simp_all; done) : some (says (IntKind.wrap .i64 ((1 : Int) + q2.1)) (IntKind.wrap .i64 ((1 : Int) + q3.1)) (byt (IntKind.wrap .i64 ((1 : Int) + q2.1))), ()) = some (wCh a.2.1 a.1, ())))))))))
/-! ### 19 Word.note -/
def wn_c : Con D := { ts := [.st 12, .int], rt := [.st 7], pre := some (fun a => a.2.1 = 1 ∨ a.2.1 = 2), ret := fun a => (wNt a.2.1 a.1, ()) }
theorem wn_ok : wn_c.ok Tryz.prog 19 := Con.proveH (c := wn_c) EF ZL (H := fun _ _ _ => none) (call := fun _ => callW ΓL ΔM (fun _ _ => none) 4) (fun _ => callW_ok KM1 _ 4) fun (a : HL D wn_c.ts) (hp : wn_c.holds a) =>
  have hf : a.2.1 = 1 ∨ a.2.1 = 2 := hp
  nmd (a := bring_c.ret (a.1.sender, (IntKind.wrap .i64 (IntKind.wrap .i64 ((3 : Int) * a.2.1) + (1 : Int))), ())) (fun q1 h1 =>
  nmd (a := bring_c.ret (a.1.node, (IntKind.wrap .i64 (IntKind.wrap .i64 ((3 : Int) * a.2.1) + (1 : Int))), ())) (fun q2 h2 =>
  nmd (a := bring_c.ret (a.1.view, (4 : Int), ())) (fun q3 h3 =>
  have E0 := wE0 hf
  have E1 := wE1 hf h1
  have E2 := wE2 hf h2
  have E3 := wE3 h3
  have E4 := wE4 hf (w := a.1)
  bq (a.1.acks) (fun h4 =>
 bq ((IntKind.wrap .i64 ((1 : Int) + q2.1)) == (IntKind.wrap .i64 ((1 : Int) + q1.1))) (fun h5 =>
 brN (c := (IntKind.wrap .i64 (IntKind.wrap .i64 ((3 : Int) * a.2.1) + (1 : Int))) != (0 : Int)) (by rw [E0]; rcases hf with h | h <;> rw [h] <;> decide) (
 bq (bif decide ((IntKind.wrap .i64 ((1 : Int) + Int.tmod (IntKind.wrap .i64 ((1 : Int) + q2.1)) (IntKind.wrap .i64 (IntKind.wrap .i64 ((3 : Int) * a.2.1) + (1 : Int))))) ≤ a.2.1) then true else decide ((IntKind.wrap .i64 ((1 : Int) + q1.1)) ≤ a.2.1)) (fun h6 =>
 And.intro (Pre.mk (by simp only [E0, E1, E2, E3, E4] at h4 h5 ⊢; exact wS hf (by simp [wNd, h4, h5])) : Pre (isW (says (IntKind.wrap .i64 ((1 : Int) + Int.tmod (IntKind.wrap .i64 ((1 : Int) + q2.1)) (IntKind.wrap .i64 (IntKind.wrap .i64 ((3 : Int) * a.2.1) + (1 : Int))))) (IntKind.wrap .i64 ((1 : Int) + q3.1)) a.1.b))) (
 (by simp only [E0, E1, E2, E3, E4, Bool.not_eq_eq_eq_not, Bool.not_true, Bool.not_false] at h4 h5 h6 ⊢; first | (simp [wNt, wCh, wNd, wBy, h4, h5, h6]; done) | (simp_all; done) : some (ackW (IntKind.wrap .i64 ((1 : Int) + q1.1)) (says (IntKind.wrap .i64 ((1 : Int) + Int.tmod (IntKind.wrap .i64 ((1 : Int) + q2.1)) (IntKind.wrap .i64 (IntKind.wrap .i64 ((3 : Int) * a.2.1) + (1 : Int))))) (IntKind.wrap .i64 ((1 : Int) + q3.1)) a.1.b), ()) = some (wNt a.2.1 a.1, ())))) (fun h6 =>
 And.intro (Pre.mk (by simp only [E0, E1, E2, E3, E4] at h4 h5 ⊢; exact wS hf (by simp [wNd, h4, h5])) : Pre (isW (says (IntKind.wrap .i64 ((1 : Int) + Int.tmod (IntKind.wrap .i64 ((1 : Int) + q2.1)) (IntKind.wrap .i64 (IntKind.wrap .i64 ((3 : Int) * a.2.1) + (1 : Int))))) (IntKind.wrap .i64 ((1 : Int) + q3.1)) (byt (IntKind.wrap .i64 ((1 : Int) + Int.tmod (IntKind.wrap .i64 ((1 : Int) + q2.1)) (IntKind.wrap .i64 (IntKind.wrap .i64 ((3 : Int) * a.2.1) + (1 : Int))))))))) (
 (by simp only [E0, E1, E2, E3, E4, Bool.not_eq_eq_eq_not, Bool.not_true, Bool.not_false] at h4 h5 h6 ⊢; first | (simp [wNt, wCh, wNd, wBy, h4, h5, h6]; done) | (simp_all; done) : some (ackW (IntKind.wrap .i64 ((1 : Int) + q1.1)) (says (IntKind.wrap .i64 ((1 : Int) + Int.tmod (IntKind.wrap .i64 ((1 : Int) + q2.1)) (IntKind.wrap .i64 (IntKind.wrap .i64 ((3 : Int) * a.2.1) + (1 : Int))))) (IntKind.wrap .i64 ((1 : Int) + q3.1)) (byt (IntKind.wrap .i64 ((1 : Int) + Int.tmod (IntKind.wrap .i64 ((1 : Int) + q2.1)) (IntKind.wrap .i64 (IntKind.wrap .i64 ((3 : Int) * a.2.1) + (1 : Int))))))), ()) = some (wNt a.2.1 a.1, ())))))) (fun h5 =>
 bq (bif decide ((IntKind.wrap .i64 ((1 : Int) + q2.1)) ≤ a.2.1) then true else decide ((IntKind.wrap .i64 ((1 : Int) + q1.1)) ≤ a.2.1)) (fun h6 =>
 And.intro (Pre.mk (by simp only [E0, E1, E2, E3, E4] at h4 h5 ⊢; exact wS hf (by simp [wNd, h4, h5])) : Pre (isW (says (IntKind.wrap .i64 ((1 : Int) + q2.1)) (IntKind.wrap .i64 ((1 : Int) + q3.1)) a.1.b))) (
 (by simp only [E0, E1, E2, E3, E4, Bool.not_eq_eq_eq_not, Bool.not_true, Bool.not_false] at h4 h5 h6 ⊢; first | (simp [wNt, wCh, wNd, wBy, h4, h5, h6]; done) | (simp_all; done) : some (ackW (IntKind.wrap .i64 ((1 : Int) + q1.1)) (says (IntKind.wrap .i64 ((1 : Int) + q2.1)) (IntKind.wrap .i64 ((1 : Int) + q3.1)) a.1.b), ()) = some (wNt a.2.1 a.1, ())))) (fun h6 =>
 And.intro (Pre.mk (by simp only [E0, E1, E2, E3, E4] at h4 h5 ⊢; exact wS hf (by simp [wNd, h4, h5])) : Pre (isW (says (IntKind.wrap .i64 ((1 : Int) + q2.1)) (IntKind.wrap .i64 ((1 : Int) + q3.1)) (byt (IntKind.wrap .i64 ((1 : Int) + q2.1)))))) (
 (by simp only [E0, E1, E2, E3, E4, Bool.not_eq_eq_eq_not, Bool.not_true, Bool.not_false] at h4 h5 h6 ⊢; first | (simp [wNt, wCh, wNd, wBy, h4, h5, h6]; done) | (simp_all; done) : some (ackW (IntKind.wrap .i64 ((1 : Int) + q1.1)) (says (IntKind.wrap .i64 ((1 : Int) + q2.1)) (IntKind.wrap .i64 ((1 : Int) + q3.1)) (byt (IntKind.wrap .i64 ((1 : Int) + q2.1)))), ()) = some (wNt a.2.1 a.1, ())))))) (fun h4 =>
 bq (decide ((IntKind.wrap .i64 ((1 : Int) + q1.1)) ≤ a.2.1)) (fun h5 =>
 (by simp only [E0, E1, E2, E3, E4, Bool.not_eq_eq_eq_not, Bool.not_true, Bool.not_false] at h4 h5 ⊢; first | (simp [wNt, wCh, wNd, wBy, h4, h5]; done) | (simp_all; done) : some (tells (says (IntKind.wrap .i64 ((1 : Int) + q1.1)) (IntKind.wrap .i64 ((1 : Int) + q3.1)) a.1.b), ()) = some (wNt a.2.1 a.1, ()))) (fun h5 =>
 (by simp only [E0, E1, E2, E3, E4, Bool.not_eq_eq_eq_not, Bool.not_true, Bool.not_false] at h4 h5 ⊢; first | (simp [wNt, wCh, wNd, wBy, h4, h5]; done) | (simp_all; done) : some (tells (says (IntKind.wrap .i64 ((1 : Int) + q1.1)) (IntKind.wrap .i64 ((1 : Int) + q3.1)) (byt (IntKind.wrap .i64 ((1 : Int) + q1.1)))), ()) = some (wNt a.2.1 a.1, ())))))))
/-! ### 17 notes -/
abbrev Γnt : Nat → Option (Con D) := addC ΓL 49 chg_c
abbrev Δnt : Nat → Option (OCon D) := addO ΔM 50 bo_c
theorem Knt : Kept EF Tryz.prog Γnt Δnt := (KM1.c rch_ok).o bo_ok
def nts_c : OCon D := { ash := [.nm 0, .dat (.st 3)], es := BS, rsh := [], pes := BS, pre := some (fun a _ => isW a.1), post := fun a e => ((), (IntKind.wrap .i64 (e.1.1 + 1), ()), bkS (chBytes a.1) e.2.1, bkM (chBytes a.1) e.2.1 e.2.2.1, ()) }
theorem nts_ok : nts_c.ok EF Tryz.prog 17 := OCon.proveH (c := nts_c) EF ZL (H := fun _ _ _ _ => none) (call := fun _ _ => callsL EF ZL ΛL Γnt Δnt (fun _ _ => none) 3) (fun _ _ => callsL_ok Ll Knt 3) fun (a : CL D nts_c.ash) (e : EL D nts_c.es) (hp : nts_c.holds a e) =>
  have hW : isW a.1 := hp
  And.intro (Pre.mk (by obtain ⟨i, h, hq⟩ := hW; exact ⟨i, by rw [h], hq⟩) : Pre (∃ i : Int × Int × UInt8, (a.1, ()) = (says i.1 i.2.1 i.2.2, ()) ∧ chOk i)) (
  And.intro (Pre.mk (isW_len hW) : Pre ((chBytes a.1).length ≤ 65536)) (
  (rfl : some ((), (IntKind.wrap .i64 (e.1.1 + 1), ()), bkS (chBytes a.1) e.2.1, bkM (chBytes a.1) e.2.1 e.2.2.1, ()) = some (nts_c.post a e))))
end Go.Proofs.YtpbcabanpppfoaaGreat

namespace Go.Proofs.YtpbcabanpppfoaaGreat
open Go Go.Gx Go.Vz
set_option maxRecDepth 100000
/-- The view that a node has reached. -/
def vw (l : List Int) (i : Nat) : Int := bif decide (i < l.length) then brg (l.getD i 0) 10 else 0
def chE (l : List Int) (i : Nat) : Int × Said := (((i + 1 : Nat) : Int), dgS (says ((i + 1 : Nat) : Int) (vw l i) (byt ((i + 1 : Nat) : Int))))
def chI (l : List Int) (n : Nat) : List Nat := (List.range n).filter fun i => decide (0 < vw l i)
def chJ (l : List Int) (n : Nat) : List (Int × Said) := (chI l n).map (chE l)
abbrev geq (w : Int) (xs : List Int) : Nat := xs.countP fun y => decide (w ≤ y)
section
variable {F : Nat} (hF : F = 1 ∨ F = 2) {l : List Int}
include hF
end
end Go.Proofs.YtpbcabanpppfoaaGreat

namespace Go.Proofs.YtpbcabanpppfoaaGreat
open Go Go.Gx Go.Vz
set_option maxRecDepth 100000
abbrev eP : List Nat := [0, 1, 2, 6, 7, 8]
/-- The entries of a council, in the order of a statement's. -/
abbrev pK (k : KD) : EL D PS := (k.2.1, kSn k, kMo k, k.1, kCh k, kAk k, ())
section
variable {B V : Int} {F : UInt8} {k : KD}
variable {b : UInt8}
end
abbrev Γa : Nat → Option (Con D) := addC ΓL 16 awk_c
theorem Ka : Kept EF Tryz.prog Γa ΔM := KM1.c awk_ok
end Go.Proofs.YtpbcabanpppfoaaGreat

namespace Go.Proofs.YtpbcabanpppfoaaGreat
open Go Go.Gx Go.Vz
set_option maxRecDepth 100000
/-- How many lie. -/
def fN (x : Int) : Nat := (1 + brg x 2).toNat
theorem fN_ok (x : Int) : fN x = 1 ∨ fN x = 2 := by
  have := brg_ok (x := x) (n := 2) (by decide) (by decide)
  unfold fN; omega
theorem fN_int (x : Int) : ((fN x : Nat) : Int) = 1 + brg x 2 := by
  have := brg_ok (x := x) (n := 2) (by decide) (by decide)
  unfold fN; omega
/-- Of a council that was told of the first n nodes' views. -/
abbrev jI (l : List Int) (F n : Nat) (k : KD) : Prop := Fct (F : Int) (3 * F + 1) (chJ l n) [] k
end Go.Proofs.YtpbcabanpppfoaaGreat

namespace Go.Vz
open Go Go.Gx
/-- A list that a slot holds. -/
def slL {E : DE} (t : Ty) (s : St E) (k : Nat) : List (t.den E) := match gSl t (slV s k) with | some l => l | none => []
end Go.Vz
namespace Go.Proofs.YtpbcabanpppfoaaGreat
open Go Go.Gx Go.Vz
set_option maxRecDepth 100000
abbrev eQ : List Nat := [1, 2, 3, 7, 8, 9]
def ta_h (f : Int) (l : List Word) : LH D := ⟨EL D PS × Nat, [10], fun i => [iv (i.2 : Int)], fun i => i.2 ≤ 80 ∧ i.2 ≤ l.length ∧ TI f i.2 (kP i.1), fun i => 80 - i.2, [], fun _ => [], eQ, fun i => opnEs EF PS eQ PS i.1⟩
def tb_h (f : Int) : LH D := ⟨EL D PS × Nat, [15], fun i => [iv (i.2 : Int)], fun i => i.2 ≤ 6 ∧ TI f 80 (kP i.1), fun i => 6 - i.2, [], fun _ => [], eQ, fun i => opnEs EF PS eQ PS i.1⟩
def tc_h (f v : Int) (r : List Change) : LH D := ⟨EL D PS × Nat, [17], fun i => [iv (i.2 : Int)], fun i => i.2 ≤ r.length ∧ TI f 80 (kP i.1) ∧ r = rdyL (kP i.1) v (rdyK (kP i.1)), fun i => r.length - i.2, [], fun _ => [], eQ, fun i => opnEs EF PS eQ PS i.1⟩
def tw_c : Con D := { ts := [.int, .sl (.st 12), .st 17], rt := [.bool], ret := fun _ => (true, ()) }
def twH (a : HL D tw_c.ts) : Nat → Nat → Option (Hint D) := fun f r => match f, r with
  | 4, 5 => some (.inv (ta_h (fN a.1 : Int) a.2.1))
  | 4, 14 => some (.inv (tb_h (fN a.1 : Int)))
  | 4, 18 => some (.dep fun s => .inv (tc_h (fN a.1 : Int) (slI s 15) (slL (.st 3) s 16)))
  | _, _ => none
abbrev Γt : Nat → Option (Con D) := addC (addC Γa 18 wc_c) 19 wn_c
abbrev Δt : Nat → Option (OCon D) := addO (addO ΔM 17 nts_c) 21 bc_c
theorem Kt : Kept EF Tryz.prog Γt Δt := (((Ka.c wc_ok).c wn_ok).o nts_ok).o bc_ok
end Go.Proofs.YtpbcabanpppfoaaGreat
