/- Change: ChangeLast is true, walked by reckoning. No condition. -/
import Derived.Test.YtpbcabanpppfoaaGreatCzWe
set_option linter.all false
namespace Go.Proofs.YtpbcabanpppfoaaGreat
open Go Go.Gx Go.Vz
set_option maxRecDepth 100000
def chL (best : Int) (first : UInt8) : List (Int × Said) := bif best == 0 then [] else [(1, dgS (says 1 best first))]
abbrev eP : List Nat := [0, 1, 2, 6, 7, 8]
/-- The entries of a council, in the order of a statement's. -/
abbrev pK (k : KD) : EL D PS := (k.2.1, kSn k, kMo k, k.1, kCh k, kAk k, ())
section
variable {B V : Int} {F : UInt8} {k : KD}
theorem chL_pos (h : 1 ≤ B) : chL B F = [(1, dgS (says 1 B F))] := by
  unfold chL; rw [show (B == 0) = false by simp; omega]; rfl
theorem chL_sd (h : 0 ≤ B) : (sd (chL B F) 1).change.view = B := by
  by_cases e : B = 0
  · subst e; rfl
  · rw [chL_pos (by omega)]; rfl
theorem chL_put (h : 1 ≤ V) {b : UInt8} : chPut (chL B F) 1 (dgS (says 1 V b)) = chL V b := by
  rw [chL_pos h]
  unfold chL
  cases B == 0 <;> rfl
theorem cl_ok (h : Fct 1 2 (chL B F) [] k) (hB : 1 ≤ B) : okK k := by
  rw [chL_pos hB] at h
  refine h.okK (.inl rfl) (by show 1 ≤ _; omega) fun p hp => ?_
  rw [List.mem_singleton] at hp
  subst hp
  exact ⟨⟨by show 1 ≤ _; omega, by show 0 ≤ _; omega, by show 1 ≤ _; omega⟩, show (-1000000 : Int) ≤ 1 by decide, show (1 : Int) ≤ 1000000 by decide⟩
theorem cl_of (h : Fct 1 2 (chL B F) [] k) (hB : 1 ≤ B) : (kof_c.post ((1 : Int), ()) k).1 = (says 1 B F, true, ()) := by
  rw [chL_pos hB] at h
  show ((sd (kCh k) 1).change, (sdO (kCh k) 1).isSome, ()) = _
  rw [h.ch]; rfl
theorem cl_bh (h : Fct 1 2 (chL B F) [] k) (hB : 1 ≤ B) : (bhd_c.post (B, ()) k).1.1 = 1 := by
  rw [chL_pos hB] at h
  show ((bhC k B (keysK k) : Nat) : Int) = 1
  rw [h.bh B]
  show ((([1] : List Int).countP fun x => decide (B ≤ (sd [(1, dgS (says 1 B F))] x).change.view) : Nat) : Int) = 1
  rw [List.countP_cons]
  have : decide (B ≤ (sd [(1, dgS (says 1 B F))] 1).change.view) = true := decide_eq_true (Int.le_refl B)
  rw [this]; rfl
theorem cl_bi (h : Fct 1 2 (chL B F) [] k) (hB : 1 ≤ B) (hC : B ≤ 9) : (bhd_c.post (IntKind.wrap .i64 (B + (1 : Int)), ()) k).1.1 = 0 := by
  rw [chL_pos hB] at h
  rw [wI (x := B + 1) (by omega) (by omega)]
  show ((bhC k (B + 1) (keysK k) : Nat) : Int) = 0
  rw [h.bh (B + 1)]
  show ((([1] : List Int).countP fun x => decide (B + 1 ≤ (sd [(1, dgS (says 1 B F))] x).change.view) : Nat) : Int) = 0
  rw [List.countP_cons]
  have : decide (B + 1 ≤ (sd [(1, dgS (says 1 B F))] 1).change.view) = false := decide_eq_false (by show ¬ B + 1 ≤ B; omega)
  rw [this]; rfl
variable {b : UInt8}
theorem cl_t (h : Fct 1 2 (chL B F) [] k) : tk_c.post (tells (says 1 V b), ()) k = takeC k (tells (says 1 V b)) := take_tell h (.inl rfl) (by decide) (by decide) (by decide)
theorem cl_old (h : Fct 1 2 (chL B F) [] k) (h1 : 1 ≤ V) (h2 : V < B) : (tk_c.post (tells (says 1 V b), ()) k).1 = ([], 190, ()) ∧ Fct 1 2 (chL B F) [] (tk_c.post (tells (says 1 V b), ()) k).2 := by
  rw [cl_t h]
  exact takeC_old h (by rw [chL_sd (by omega)]; exact h2)
theorem cl_other (h : Fct 1 2 (chL B F) [] k) (h1 : 1 ≤ V) (h2 : V = B) (h3 : F ≠ b) : (tk_c.post (tells (says 1 V b), ()) k).1 = ([], 151, ()) ∧ Fct 1 2 (chL B F) [] (tk_c.post (tells (says 1 V b), ()) k).2 := by
  rw [cl_t h]
  refine takeC_other h (by rw [chL_sd (by omega), h2]) ?_
  rw [chL_pos (by omega)]
  intro e
  have e : says 1 B F = says 1 V b := e
  exact h3 (says_inj e).2.2
theorem cl_new (h : Fct 1 2 (chL B F) [] k) (h2 : B < V) (h1 : 1 ≤ V) (h0 : 0 ≤ B := by omega) : (tk_c.post (tells (says 1 V b), ()) k).1 = ([ackW 2 (says 1 V b)], 0, ()) ∧ Fct 1 2 (chL V b) [] (tk_c.post (tells (says 1 V b), ()) k).2 := by
  rw [cl_t h]
  obtain ⟨g1, g2⟩ := takeC_new h (b := b) (v := V) (n := 1) (by rw [chL_sd h0]; exact h2)
  rw [← chL_put (B := B) (F := F) h1]
  exact ⟨g1, g2⟩
theorem upF {j : Nat} (h : B = 0 ∨ ∃ m : Nat, m < j ∧ F = byt (m : Int)) : B = 0 ∨ ∃ m : Nat, m < j + 1 ∧ F = byt (m : Int) := by
  rcases h with h | ⟨m, h1, h2⟩
  · exact .inl h
  · exact .inr ⟨m, by omega, h2⟩
theorem byt_inj {m j : Nat} (h1 : m < 256) (h2 : j < 256) (h : byt (m : Int) = byt (j : Int)) : m = j := by
  have e (x : Nat) (hx : x < 256) : (byt (x : Int)).toNat = x := by
    have : IntKind.wrap .u8 (x : Int) = (x : Int) := by
      show ((x : Int) % 256) = x
      omega
    unfold byt
    rw [this, Int.toNat_natCast]
    simp; omega
  rw [← e m h1, ← e j h2, h]
theorem cl_ne {j : Nat} (h : B = 0 ∨ ∃ m : Nat, m < j ∧ F = byt (m : Int)) (hB : 1 ≤ B) (hj : j ≤ 100) : F ≠ byt (j : Int) := by
  rcases h with h | ⟨m, h1, h2⟩
  · omega
  · rw [h2]
    intro e
    have := byt_inj (by omega) (by omega) e
    omega
end
def cl_h (n : Nat) : LH D := ⟨EL D PS × Int × UInt8 × Nat, [4, 5, 6], fun i => [iv i.2.1, .u8 i.2.2.1, iv (i.2.2.2 : Int)], fun i => i.2.2.2 ≤ 30 ∧ i.2.2.2 ≤ n ∧ 0 ≤ i.2.1 ∧ i.2.1 ≤ 9 ∧ Fct 1 2 (chL i.2.1 i.2.2.1) [] (kP i.1) ∧ (i.2.1 = 0 ∨ ∃ m : Nat, m < i.2.2.2 ∧ i.2.2.1 = byt (m : Int)), fun i => 30 - i.2.2.2, [], fun _ => [], eP, fun i => opnEs EF PS eP PS i.1⟩
abbrev Γa : Nat → Option (Con D) := addC ΓL 16 awk_c
theorem Ka : Kept EF Tryz.prog Γa ΔM := KM1.c awk_ok
def cl_c : Con D := { ts := [.sl .int], rt := [.bool], ret := fun _ => (true, ()) }
def clH (a : HL D cl_c.ts) : Nat → Nat → Option (Hint D) := fun f r => match f, r with | 5, 4 => some (.inv (cl_h a.1.length)) | _, _ => none
theorem cl_true : cl_c.ok Tryz.prog 5 := Con.proveH (c := cl_c) EF ZL (H := clH) (call := fun a => callW Γa ΔM (clH a) 4) (fun a => callW_ok Ka (clH a) 4) fun (a : HL D cl_c.ts) (_ : cl_c.holds a) =>
  nmd (a := bn_c.post () ()) (fun q1 _ =>
  And.intro (Pre.mk ⟨.inl rfl, by decide, by decide⟩ : Pre (okF 1 2)) (
  nmd (a := fr_c.post ((1 : Int), (2 : Int), ()) q1.2) (fun q2 h2 =>
  have F0 : Fct 1 2 [] [] (kP q2.2) := by rw [← h2]; exact ⟨rfl, rfl, rfl⟩
  And.intro (⟨(q2.2, (0 : Int), (0 : UInt8), (0 : Nat)), rfl, rfl, rfl, ⟨Nat.zero_le _, Nat.zero_le _, Int.le_refl 0, show (0 : Int) ≤ 9 by decide, F0, .inl rfl⟩⟩ : Ent (cl_h a.1.length) [SV.i .i64 (0 : Int), SV.u8 (0 : UInt8), SV.i .i64 (0 : Int)] [] (opnEs EF PS eP PS q2.2)) (
  fun (i : EL D PS × Int × UInt8 × Nat) (hI : i.2.2.2 ≤ 30 ∧ i.2.2.2 ≤ a.1.length ∧ 0 ≤ i.2.1 ∧ i.2.1 ≤ 9 ∧ Fct 1 2 (chL i.2.1 i.2.2.1) [] (kP i.1) ∧ (i.2.1 = 0 ∨ ∃ m : Nat, m < i.2.2.2 ∧ i.2.2.1 = byt (m : Int))) =>
  brL fun _ : a.1.length ≤ maxL =>
  bq (bif decide ((i.2.2.2 : Int) < ((a.1.length : Nat) : Int)) then decide ((i.2.2.2 : Int) < (30 : Int)) else false) (fun h5 =>
  have hj : i.2.2.2 < a.1.length ∧ i.2.2.2 < 30 := by
    cases h : decide ((i.2.2.2 : Int) < ((a.1.length : Nat) : Int)) with
    | false => rw [h] at h5; cases h5
    | true => rw [h] at h5; have h5 := of_decide_eq_true h5; have h := of_decide_eq_true h; omega
  brN (c := decide ((0 : Int) ≤ (i.2.2.2 : Int)) && decide ((i.2.2.2 : Int) < ((a.1.length : Nat) : Int))) (by simp; omega) (
  nmd (a := bring_c.ret (a.1.getD (i.2.2.2 : Int).toNat (0 : Int), (9 : Int), ())) (fun q6 h6 =>
  have hv : 1 ≤ (IntKind.wrap .i64 ((1 : Int) + q6.1)) ∧ (IntKind.wrap .i64 ((1 : Int) + q6.1)) ≤ 9 := by
    have e : q6.1 = brg (a.1.getD (i.2.2.2 : Int).toNat (0 : Int)) 9 := by rw [← h6]; rfl
    have := brg_ok (x := a.1.getD (i.2.2.2 : Int).toNat (0 : Int)) (n := 9) (by decide) (by decide)
    rw [e, wI (by omega) (by omega)]; omega
  And.intro (Pre.mk (tell_nt (by decide) (by decide) hv.1 (by omega)) : Pre (isNt (tells (says 1 (IntKind.wrap .i64 ((1 : Int) + q6.1)) (byt (i.2.2.2 : Int)))))) (
  nmd (a := tk_c.post (tells (says 1 (IntKind.wrap .i64 ((1 : Int) + q6.1)) (byt (i.2.2.2 : Int))), ()) (kP i.1)) (fun q7 h7 =>
  bq (decide ((IntKind.wrap .i64 ((1 : Int) + q6.1)) < i.2.1)) (fun h8 =>
  bq ((IntKind.wrap .i64 ((1 : Int) + q6.1)) == i.2.1) (fun h9 =>
  have X : False := by have h8 := of_decide_eq_true h8; have h9 : (IntKind.wrap .i64 ((1 : Int) + q6.1)) = i.2.1 := (by simpa using h9); omega
  bq (bif q7.1.2.1 != (151 : Int) then true else (((q7.1.1.length : Nat) : Int) == (1 : Int)) != (q7.1.2.1 == (0 : Int))) (fun h => (X.elim : some (false, ()) = some (true, ()))) (fun _ =>
  bq (q7.1.2.1 == (0 : Int)) (fun h11 =>
  have GD : Fct 1 2 (chL (IntKind.wrap .i64 ((1 : Int) + q6.1)) (byt (i.2.2.2 : Int))) [] q7.2 := (X).elim
  have HD : 1 ≤ (IntKind.wrap .i64 ((1 : Int) + q6.1)) ∧ (IntKind.wrap .i64 ((1 : Int) + q6.1)) ≤ 9 := (X).elim
  And.intro (Pre.mk (cl_ok GD HD.1) : Pre (okK q7.2)) (
  nmd (a := (kof_c.post ((1 : Int), ()) q7.2).1) (fun q12 h12 =>
  have e12 : q12 = (says 1 (IntKind.wrap .i64 ((1 : Int) + q6.1)) (byt (i.2.2.2 : Int)), true, ()) := by rw [← h12]; exact cl_of GD HD.1
  bq (!q12.2.1) (fun h => (by rw [e12] at h; exact absurd h Bool.false_ne_true : some (false, ()) = some (true, ()))) (fun _ =>
  bq (!dq (α := Change) q12.1 (says 1 (IntKind.wrap .i64 ((1 : Int) + q6.1)) (byt (i.2.2.2 : Int)))) (fun h => (by rw [e12] at h; simp [dq] at h : some (false, ()) = some (true, ()))) (fun _ =>
  And.intro (Pre.mk (cl_ok GD HD.1) : Pre (okK q7.2)) (
  nmd (a := (bhd_c.post ((IntKind.wrap .i64 ((1 : Int) + q6.1)), ()) q7.2).1) (fun q15 h15 =>
  have e15 : q15.1 = 1 := by rw [← h15]; exact cl_bh GD HD.1
  bq (q15.1 != (1 : Int)) (fun h => (by rw [e15] at h; exact absurd h Bool.false_ne_true : some (false, ()) = some (true, ()))) (fun _ =>
  And.intro (Pre.mk (cl_ok GD HD.1) : Pre (okK q7.2)) (
  nmd (a := (bhd_c.post (IntKind.wrap .i64 ((IntKind.wrap .i64 ((1 : Int) + q6.1)) + (1 : Int)), ()) q7.2).1) (fun q17 h17 =>
  have e17 : q17.1 = 0 := by rw [← h17]; exact cl_bi GD HD.1 HD.2
  bq (q17.1 != (0 : Int)) (fun h => (by rw [e17] at h; exact absurd h Bool.false_ne_true : some (false, ()) = some (true, ()))) (fun _ =>
  (⟨(pK q7.2, (IntKind.wrap .i64 ((1 : Int) + q6.1)), (byt (i.2.2.2 : Int)), i.2.2.2 + 1), by
      show [iv (IntKind.wrap .i64 ((1 : Int) + q6.1)), .u8 (byt (i.2.2.2 : Int)), SV.i .i64 (IntKind.wrap .i64 ((i.2.2.2 : Int) + 1))] = [iv (IntKind.wrap .i64 ((1 : Int) + q6.1)), .u8 (byt (i.2.2.2 : Int)), iv ((i.2.2.2 + 1 : Nat) : Int)]
      rw [wr1 (by omega)], rfl, rfl, (X).elim, by show 30 - (i.2.2.2 + 1) < 30 - i.2.2.2; omega⟩ : Rnd (cl_h a.1.length) i [iv (IntKind.wrap .i64 ((1 : Int) + q6.1)), SV.u8 (byt (i.2.2.2 : Int)), SV.i .i64 (IntKind.wrap .i64 ((i.2.2.2 : Int) + 1))] [] (opnEs EF PS eP PS (pK q7.2)))))))))))))) (fun h11 =>
  have GD : Fct 1 2 (chL i.2.1 i.2.2.1) [] q7.2 := (X).elim
  have HD : 1 ≤ i.2.1 ∧ i.2.1 ≤ 9 := (X).elim
  And.intro (Pre.mk (cl_ok GD HD.1) : Pre (okK q7.2)) (
  nmd (a := (kof_c.post ((1 : Int), ()) q7.2).1) (fun q12 h12 =>
  have e12 : q12 = (says 1 i.2.1 i.2.2.1, true, ()) := by rw [← h12]; exact cl_of GD HD.1
  bq (!q12.2.1) (fun h => (by rw [e12] at h; exact absurd h Bool.false_ne_true : some (false, ()) = some (true, ()))) (fun _ =>
  bq (!dq (α := Change) q12.1 (says 1 i.2.1 i.2.2.1)) (fun h => (by rw [e12] at h; simp [dq] at h : some (false, ()) = some (true, ()))) (fun _ =>
  And.intro (Pre.mk (cl_ok GD HD.1) : Pre (okK q7.2)) (
  nmd (a := (bhd_c.post (i.2.1, ()) q7.2).1) (fun q15 h15 =>
  have e15 : q15.1 = 1 := by rw [← h15]; exact cl_bh GD HD.1
  bq (q15.1 != (1 : Int)) (fun h => (by rw [e15] at h; exact absurd h Bool.false_ne_true : some (false, ()) = some (true, ()))) (fun _ =>
  And.intro (Pre.mk (cl_ok GD HD.1) : Pre (okK q7.2)) (
  nmd (a := (bhd_c.post (IntKind.wrap .i64 (i.2.1 + (1 : Int)), ()) q7.2).1) (fun q17 h17 =>
  have e17 : q17.1 = 0 := by rw [← h17]; exact cl_bi GD HD.1 HD.2
  bq (q17.1 != (0 : Int)) (fun h => (by rw [e17] at h; exact absurd h Bool.false_ne_true : some (false, ()) = some (true, ()))) (fun _ =>
  (⟨(pK q7.2, i.2.1, i.2.2.1, i.2.2.2 + 1), by
      show [iv i.2.1, .u8 i.2.2.1, SV.i .i64 (IntKind.wrap .i64 ((i.2.2.2 : Int) + 1))] = [iv i.2.1, .u8 i.2.2.1, iv ((i.2.2.2 + 1 : Nat) : Int)]
      rw [wr1 (by omega)], rfl, rfl, (X).elim, by show 30 - (i.2.2.2 + 1) < 30 - i.2.2.2; omega⟩ : Rnd (cl_h a.1.length) i [iv i.2.1, SV.u8 i.2.2.1, SV.i .i64 (IntKind.wrap .i64 ((i.2.2.2 : Int) + 1))] [] (opnEs EF PS eP PS (pK q7.2)))))))))))))))) (fun h9 =>
  have G : q7.1 = ([], 190, ()) ∧ Fct 1 2 (chL i.2.1 i.2.2.1) [] q7.2 := by rw [← h7]; exact cl_old hI.2.2.2.2.1 hv.1 (of_decide_eq_true h8)
  have hb : 1 ≤ i.2.1 := by have := of_decide_eq_true h8; omega
  have X : (q7.1.2.1 == (0 : Int)) = true → False := fun h => by rw [G.1] at h; exact absurd h Bool.false_ne_true
  bq (bif q7.1.2.1 != (190 : Int) then true else (((q7.1.1.length : Nat) : Int) == (1 : Int)) != (q7.1.2.1 == (0 : Int))) (fun h => (by rw [G.1] at h; exact absurd h Bool.false_ne_true : some (false, ()) = some (true, ()))) (fun _ =>
  bq (q7.1.2.1 == (0 : Int)) (fun h11 =>
  have GD : Fct 1 2 (chL (IntKind.wrap .i64 ((1 : Int) + q6.1)) (byt (i.2.2.2 : Int))) [] q7.2 := (X h11).elim
  have HD : 1 ≤ (IntKind.wrap .i64 ((1 : Int) + q6.1)) ∧ (IntKind.wrap .i64 ((1 : Int) + q6.1)) ≤ 9 := (X h11).elim
  And.intro (Pre.mk (cl_ok GD HD.1) : Pre (okK q7.2)) (
  nmd (a := (kof_c.post ((1 : Int), ()) q7.2).1) (fun q12 h12 =>
  have e12 : q12 = (says 1 (IntKind.wrap .i64 ((1 : Int) + q6.1)) (byt (i.2.2.2 : Int)), true, ()) := by rw [← h12]; exact cl_of GD HD.1
  bq (!q12.2.1) (fun h => (by rw [e12] at h; exact absurd h Bool.false_ne_true : some (false, ()) = some (true, ()))) (fun _ =>
  bq (!dq (α := Change) q12.1 (says 1 (IntKind.wrap .i64 ((1 : Int) + q6.1)) (byt (i.2.2.2 : Int)))) (fun h => (by rw [e12] at h; simp [dq] at h : some (false, ()) = some (true, ()))) (fun _ =>
  And.intro (Pre.mk (cl_ok GD HD.1) : Pre (okK q7.2)) (
  nmd (a := (bhd_c.post ((IntKind.wrap .i64 ((1 : Int) + q6.1)), ()) q7.2).1) (fun q15 h15 =>
  have e15 : q15.1 = 1 := by rw [← h15]; exact cl_bh GD HD.1
  bq (q15.1 != (1 : Int)) (fun h => (by rw [e15] at h; exact absurd h Bool.false_ne_true : some (false, ()) = some (true, ()))) (fun _ =>
  And.intro (Pre.mk (cl_ok GD HD.1) : Pre (okK q7.2)) (
  nmd (a := (bhd_c.post (IntKind.wrap .i64 ((IntKind.wrap .i64 ((1 : Int) + q6.1)) + (1 : Int)), ()) q7.2).1) (fun q17 h17 =>
  have e17 : q17.1 = 0 := by rw [← h17]; exact cl_bi GD HD.1 HD.2
  bq (q17.1 != (0 : Int)) (fun h => (by rw [e17] at h; exact absurd h Bool.false_ne_true : some (false, ()) = some (true, ()))) (fun _ =>
  (⟨(pK q7.2, (IntKind.wrap .i64 ((1 : Int) + q6.1)), (byt (i.2.2.2 : Int)), i.2.2.2 + 1), by
      show [iv (IntKind.wrap .i64 ((1 : Int) + q6.1)), .u8 (byt (i.2.2.2 : Int)), SV.i .i64 (IntKind.wrap .i64 ((i.2.2.2 : Int) + 1))] = [iv (IntKind.wrap .i64 ((1 : Int) + q6.1)), .u8 (byt (i.2.2.2 : Int)), iv ((i.2.2.2 + 1 : Nat) : Int)]
      rw [wr1 (by omega)], rfl, rfl, (X h11).elim, by show 30 - (i.2.2.2 + 1) < 30 - i.2.2.2; omega⟩ : Rnd (cl_h a.1.length) i [iv (IntKind.wrap .i64 ((1 : Int) + q6.1)), SV.u8 (byt (i.2.2.2 : Int)), SV.i .i64 (IntKind.wrap .i64 ((i.2.2.2 : Int) + 1))] [] (opnEs EF PS eP PS (pK q7.2)))))))))))))) (fun h11 =>
  And.intro (Pre.mk (cl_ok G.2 hb) : Pre (okK q7.2)) (
  nmd (a := (kof_c.post ((1 : Int), ()) q7.2).1) (fun q12 h12 =>
  have e12 : q12 = (says 1 i.2.1 i.2.2.1, true, ()) := by rw [← h12]; exact cl_of G.2 hb
  bq (!q12.2.1) (fun h => (by rw [e12] at h; exact absurd h Bool.false_ne_true : some (false, ()) = some (true, ()))) (fun _ =>
  bq (!dq (α := Change) q12.1 (says 1 i.2.1 i.2.2.1)) (fun h => (by rw [e12] at h; simp [dq] at h : some (false, ()) = some (true, ()))) (fun _ =>
  And.intro (Pre.mk (cl_ok G.2 hb) : Pre (okK q7.2)) (
  nmd (a := (bhd_c.post (i.2.1, ()) q7.2).1) (fun q15 h15 =>
  have e15 : q15.1 = 1 := by rw [← h15]; exact cl_bh G.2 hb
  bq (q15.1 != (1 : Int)) (fun h => (by rw [e15] at h; exact absurd h Bool.false_ne_true : some (false, ()) = some (true, ()))) (fun _ =>
  And.intro (Pre.mk (cl_ok G.2 hb) : Pre (okK q7.2)) (
  nmd (a := (bhd_c.post (IntKind.wrap .i64 (i.2.1 + (1 : Int)), ()) q7.2).1) (fun q17 h17 =>
  have e17 : q17.1 = 0 := by rw [← h17]; exact cl_bi G.2 hb hI.2.2.2.1
  bq (q17.1 != (0 : Int)) (fun h => (by rw [e17] at h; exact absurd h Bool.false_ne_true : some (false, ()) = some (true, ()))) (fun _ =>
  (⟨(pK q7.2, i.2.1, i.2.2.1, i.2.2.2 + 1), by
      show [iv i.2.1, .u8 i.2.2.1, SV.i .i64 (IntKind.wrap .i64 ((i.2.2.2 : Int) + 1))] = [iv i.2.1, .u8 i.2.2.1, iv ((i.2.2.2 + 1 : Nat) : Int)]
      rw [wr1 (by omega)], rfl, rfl, ⟨by show i.2.2.2 + 1 ≤ 30; omega, by show i.2.2.2 + 1 ≤ a.1.length; omega, hI.2.2.1, hI.2.2.2.1, G.2, upF hI.2.2.2.2.2⟩, by show 30 - (i.2.2.2 + 1) < 30 - i.2.2.2; omega⟩ : Rnd (cl_h a.1.length) i [iv i.2.1, SV.u8 i.2.2.1, SV.i .i64 (IntKind.wrap .i64 ((i.2.2.2 : Int) + 1))] [] (opnEs EF PS eP PS (pK q7.2))))))))))))))))) (fun h8 =>
  bq ((IntKind.wrap .i64 ((1 : Int) + q6.1)) == i.2.1) (fun h9 =>
  have G : q7.1 = ([], 151, ()) ∧ Fct 1 2 (chL i.2.1 i.2.2.1) [] q7.2 := by rw [← h7]; exact cl_other hI.2.2.2.2.1 hv.1 (by simpa using h9) (cl_ne hI.2.2.2.2.2 (by have : (IntKind.wrap .i64 ((1 : Int) + q6.1)) = i.2.1 := (by simpa using h9); omega) (by omega))
  have hb : 1 ≤ i.2.1 := by have : (IntKind.wrap .i64 ((1 : Int) + q6.1)) = i.2.1 := (by simpa using h9); omega
  have X : (q7.1.2.1 == (0 : Int)) = true → False := fun h => by rw [G.1] at h; exact absurd h Bool.false_ne_true
  bq (bif q7.1.2.1 != (151 : Int) then true else (((q7.1.1.length : Nat) : Int) == (1 : Int)) != (q7.1.2.1 == (0 : Int))) (fun h => (by rw [G.1] at h; exact absurd h Bool.false_ne_true : some (false, ()) = some (true, ()))) (fun _ =>
  bq (q7.1.2.1 == (0 : Int)) (fun h11 =>
  have GD : Fct 1 2 (chL (IntKind.wrap .i64 ((1 : Int) + q6.1)) (byt (i.2.2.2 : Int))) [] q7.2 := (X h11).elim
  have HD : 1 ≤ (IntKind.wrap .i64 ((1 : Int) + q6.1)) ∧ (IntKind.wrap .i64 ((1 : Int) + q6.1)) ≤ 9 := (X h11).elim
  And.intro (Pre.mk (cl_ok GD HD.1) : Pre (okK q7.2)) (
  nmd (a := (kof_c.post ((1 : Int), ()) q7.2).1) (fun q12 h12 =>
  have e12 : q12 = (says 1 (IntKind.wrap .i64 ((1 : Int) + q6.1)) (byt (i.2.2.2 : Int)), true, ()) := by rw [← h12]; exact cl_of GD HD.1
  bq (!q12.2.1) (fun h => (by rw [e12] at h; exact absurd h Bool.false_ne_true : some (false, ()) = some (true, ()))) (fun _ =>
  bq (!dq (α := Change) q12.1 (says 1 (IntKind.wrap .i64 ((1 : Int) + q6.1)) (byt (i.2.2.2 : Int)))) (fun h => (by rw [e12] at h; simp [dq] at h : some (false, ()) = some (true, ()))) (fun _ =>
  And.intro (Pre.mk (cl_ok GD HD.1) : Pre (okK q7.2)) (
  nmd (a := (bhd_c.post ((IntKind.wrap .i64 ((1 : Int) + q6.1)), ()) q7.2).1) (fun q15 h15 =>
  have e15 : q15.1 = 1 := by rw [← h15]; exact cl_bh GD HD.1
  bq (q15.1 != (1 : Int)) (fun h => (by rw [e15] at h; exact absurd h Bool.false_ne_true : some (false, ()) = some (true, ()))) (fun _ =>
  And.intro (Pre.mk (cl_ok GD HD.1) : Pre (okK q7.2)) (
  nmd (a := (bhd_c.post (IntKind.wrap .i64 ((IntKind.wrap .i64 ((1 : Int) + q6.1)) + (1 : Int)), ()) q7.2).1) (fun q17 h17 =>
  have e17 : q17.1 = 0 := by rw [← h17]; exact cl_bi GD HD.1 HD.2
  bq (q17.1 != (0 : Int)) (fun h => (by rw [e17] at h; exact absurd h Bool.false_ne_true : some (false, ()) = some (true, ()))) (fun _ =>
  (⟨(pK q7.2, (IntKind.wrap .i64 ((1 : Int) + q6.1)), (byt (i.2.2.2 : Int)), i.2.2.2 + 1), by
      show [iv (IntKind.wrap .i64 ((1 : Int) + q6.1)), .u8 (byt (i.2.2.2 : Int)), SV.i .i64 (IntKind.wrap .i64 ((i.2.2.2 : Int) + 1))] = [iv (IntKind.wrap .i64 ((1 : Int) + q6.1)), .u8 (byt (i.2.2.2 : Int)), iv ((i.2.2.2 + 1 : Nat) : Int)]
      rw [wr1 (by omega)], rfl, rfl, (X h11).elim, by show 30 - (i.2.2.2 + 1) < 30 - i.2.2.2; omega⟩ : Rnd (cl_h a.1.length) i [iv (IntKind.wrap .i64 ((1 : Int) + q6.1)), SV.u8 (byt (i.2.2.2 : Int)), SV.i .i64 (IntKind.wrap .i64 ((i.2.2.2 : Int) + 1))] [] (opnEs EF PS eP PS (pK q7.2)))))))))))))) (fun h11 =>
  And.intro (Pre.mk (cl_ok G.2 hb) : Pre (okK q7.2)) (
  nmd (a := (kof_c.post ((1 : Int), ()) q7.2).1) (fun q12 h12 =>
  have e12 : q12 = (says 1 i.2.1 i.2.2.1, true, ()) := by rw [← h12]; exact cl_of G.2 hb
  bq (!q12.2.1) (fun h => (by rw [e12] at h; exact absurd h Bool.false_ne_true : some (false, ()) = some (true, ()))) (fun _ =>
  bq (!dq (α := Change) q12.1 (says 1 i.2.1 i.2.2.1)) (fun h => (by rw [e12] at h; simp [dq] at h : some (false, ()) = some (true, ()))) (fun _ =>
  And.intro (Pre.mk (cl_ok G.2 hb) : Pre (okK q7.2)) (
  nmd (a := (bhd_c.post (i.2.1, ()) q7.2).1) (fun q15 h15 =>
  have e15 : q15.1 = 1 := by rw [← h15]; exact cl_bh G.2 hb
  bq (q15.1 != (1 : Int)) (fun h => (by rw [e15] at h; exact absurd h Bool.false_ne_true : some (false, ()) = some (true, ()))) (fun _ =>
  And.intro (Pre.mk (cl_ok G.2 hb) : Pre (okK q7.2)) (
  nmd (a := (bhd_c.post (IntKind.wrap .i64 (i.2.1 + (1 : Int)), ()) q7.2).1) (fun q17 h17 =>
  have e17 : q17.1 = 0 := by rw [← h17]; exact cl_bi G.2 hb hI.2.2.2.1
  bq (q17.1 != (0 : Int)) (fun h => (by rw [e17] at h; exact absurd h Bool.false_ne_true : some (false, ()) = some (true, ()))) (fun _ =>
  (⟨(pK q7.2, i.2.1, i.2.2.1, i.2.2.2 + 1), by
      show [iv i.2.1, .u8 i.2.2.1, SV.i .i64 (IntKind.wrap .i64 ((i.2.2.2 : Int) + 1))] = [iv i.2.1, .u8 i.2.2.1, iv ((i.2.2.2 + 1 : Nat) : Int)]
      rw [wr1 (by omega)], rfl, rfl, ⟨by show i.2.2.2 + 1 ≤ 30; omega, by show i.2.2.2 + 1 ≤ a.1.length; omega, hI.2.2.1, hI.2.2.2.1, G.2, upF hI.2.2.2.2.2⟩, by show 30 - (i.2.2.2 + 1) < 30 - i.2.2.2; omega⟩ : Rnd (cl_h a.1.length) i [iv i.2.1, SV.u8 i.2.2.1, SV.i .i64 (IntKind.wrap .i64 ((i.2.2.2 : Int) + 1))] [] (opnEs EF PS eP PS (pK q7.2)))))))))))))))) (fun h9 =>
  have G : q7.1 = ([ackW 2 (says 1 (IntKind.wrap .i64 ((1 : Int) + q6.1)) (byt (i.2.2.2 : Int)))], 0, ()) ∧ Fct 1 2 (chL (IntKind.wrap .i64 ((1 : Int) + q6.1)) (byt (i.2.2.2 : Int))) [] q7.2 := by rw [← h7]; exact cl_new hI.2.2.2.2.1 (by have := of_decide_eq_false h8; have h9 : ¬ (IntKind.wrap .i64 ((1 : Int) + q6.1)) = i.2.1 := (by simpa using h9); omega) hv.1
  have X : (q7.1.2.1 == (0 : Int)) = false → False := fun h => by rw [G.1] at h; exact Bool.false_ne_true h.symm
  bq (bif q7.1.2.1 != (0 : Int) then true else (((q7.1.1.length : Nat) : Int) == (1 : Int)) != (q7.1.2.1 == (0 : Int))) (fun h => (by rw [G.1] at h; exact absurd h Bool.false_ne_true : some (false, ()) = some (true, ()))) (fun _ =>
  bq (q7.1.2.1 == (0 : Int)) (fun h11 =>
  And.intro (Pre.mk (cl_ok G.2 hv.1) : Pre (okK q7.2)) (
  nmd (a := (kof_c.post ((1 : Int), ()) q7.2).1) (fun q12 h12 =>
  have e12 : q12 = (says 1 (IntKind.wrap .i64 ((1 : Int) + q6.1)) (byt (i.2.2.2 : Int)), true, ()) := by rw [← h12]; exact cl_of G.2 hv.1
  bq (!q12.2.1) (fun h => (by rw [e12] at h; exact absurd h Bool.false_ne_true : some (false, ()) = some (true, ()))) (fun _ =>
  bq (!dq (α := Change) q12.1 (says 1 (IntKind.wrap .i64 ((1 : Int) + q6.1)) (byt (i.2.2.2 : Int)))) (fun h => (by rw [e12] at h; simp [dq] at h : some (false, ()) = some (true, ()))) (fun _ =>
  And.intro (Pre.mk (cl_ok G.2 hv.1) : Pre (okK q7.2)) (
  nmd (a := (bhd_c.post ((IntKind.wrap .i64 ((1 : Int) + q6.1)), ()) q7.2).1) (fun q15 h15 =>
  have e15 : q15.1 = 1 := by rw [← h15]; exact cl_bh G.2 hv.1
  bq (q15.1 != (1 : Int)) (fun h => (by rw [e15] at h; exact absurd h Bool.false_ne_true : some (false, ()) = some (true, ()))) (fun _ =>
  And.intro (Pre.mk (cl_ok G.2 hv.1) : Pre (okK q7.2)) (
  nmd (a := (bhd_c.post (IntKind.wrap .i64 ((IntKind.wrap .i64 ((1 : Int) + q6.1)) + (1 : Int)), ()) q7.2).1) (fun q17 h17 =>
  have e17 : q17.1 = 0 := by rw [← h17]; exact cl_bi G.2 hv.1 hv.2
  bq (q17.1 != (0 : Int)) (fun h => (by rw [e17] at h; exact absurd h Bool.false_ne_true : some (false, ()) = some (true, ()))) (fun _ =>
  (⟨(pK q7.2, (IntKind.wrap .i64 ((1 : Int) + q6.1)), (byt (i.2.2.2 : Int)), i.2.2.2 + 1), by
      show [iv (IntKind.wrap .i64 ((1 : Int) + q6.1)), .u8 (byt (i.2.2.2 : Int)), SV.i .i64 (IntKind.wrap .i64 ((i.2.2.2 : Int) + 1))] = [iv (IntKind.wrap .i64 ((1 : Int) + q6.1)), .u8 (byt (i.2.2.2 : Int)), iv ((i.2.2.2 + 1 : Nat) : Int)]
      rw [wr1 (by omega)], rfl, rfl, ⟨by show i.2.2.2 + 1 ≤ 30; omega, by show i.2.2.2 + 1 ≤ a.1.length; omega, by show 0 ≤ (IntKind.wrap .i64 ((1 : Int) + q6.1)); omega, hv.2, G.2, .inr ⟨i.2.2.2, Nat.lt_succ_self _, rfl⟩⟩, by show 30 - (i.2.2.2 + 1) < 30 - i.2.2.2; omega⟩ : Rnd (cl_h a.1.length) i [iv (IntKind.wrap .i64 ((1 : Int) + q6.1)), SV.u8 (byt (i.2.2.2 : Int)), SV.i .i64 (IntKind.wrap .i64 ((i.2.2.2 : Int) + 1))] [] (opnEs EF PS eP PS (pK q7.2)))))))))))))) (fun h11 =>
  have GD : Fct 1 2 (chL i.2.1 i.2.2.1) [] q7.2 := (X h11).elim
  have HD : 1 ≤ i.2.1 ∧ i.2.1 ≤ 9 := (X h11).elim
  And.intro (Pre.mk (cl_ok GD HD.1) : Pre (okK q7.2)) (
  nmd (a := (kof_c.post ((1 : Int), ()) q7.2).1) (fun q12 h12 =>
  have e12 : q12 = (says 1 i.2.1 i.2.2.1, true, ()) := by rw [← h12]; exact cl_of GD HD.1
  bq (!q12.2.1) (fun h => (by rw [e12] at h; exact absurd h Bool.false_ne_true : some (false, ()) = some (true, ()))) (fun _ =>
  bq (!dq (α := Change) q12.1 (says 1 i.2.1 i.2.2.1)) (fun h => (by rw [e12] at h; simp [dq] at h : some (false, ()) = some (true, ()))) (fun _ =>
  And.intro (Pre.mk (cl_ok GD HD.1) : Pre (okK q7.2)) (
  nmd (a := (bhd_c.post (i.2.1, ()) q7.2).1) (fun q15 h15 =>
  have e15 : q15.1 = 1 := by rw [← h15]; exact cl_bh GD HD.1
  bq (q15.1 != (1 : Int)) (fun h => (by rw [e15] at h; exact absurd h Bool.false_ne_true : some (false, ()) = some (true, ()))) (fun _ =>
  And.intro (Pre.mk (cl_ok GD HD.1) : Pre (okK q7.2)) (
  nmd (a := (bhd_c.post (IntKind.wrap .i64 (i.2.1 + (1 : Int)), ()) q7.2).1) (fun q17 h17 =>
  have e17 : q17.1 = 0 := by rw [← h17]; exact cl_bi GD HD.1 HD.2
  bq (q17.1 != (0 : Int)) (fun h => (by rw [e17] at h; exact absurd h Bool.false_ne_true : some (false, ()) = some (true, ()))) (fun _ =>
  (⟨(pK q7.2, i.2.1, i.2.2.1, i.2.2.2 + 1), by
      show [iv i.2.1, .u8 i.2.2.1, SV.i .i64 (IntKind.wrap .i64 ((i.2.2.2 : Int) + 1))] = [iv i.2.1, .u8 i.2.2.1, iv ((i.2.2.2 + 1 : Nat) : Int)]
      rw [wr1 (by omega)], rfl, rfl, (X h11).elim, by show 30 - (i.2.2.2 + 1) < 30 - i.2.2.2; omega⟩ : Rnd (cl_h a.1.length) i [iv i.2.1, SV.u8 i.2.2.1, SV.i .i64 (IntKind.wrap .i64 ((i.2.2.2 : Int) + 1))] [] (opnEs EF PS eP PS (pK q7.2))))))))))))))))))))))
  (fun _ => (rfl : some (true, ()) = some (true, ())))))))
end Go.Proofs.YtpbcabanpppfoaaGreat
