/- Change: what Join answers to the views that nodes have reached, in plain words. No condition. -/
import Derived.Test.YtpbcabanpppfoaaGreatCzAw
import Derived.Test.YtpbcabanpppfoaaGreatVzSort
import Derived.Test.YtpbcabanpppfoaaGreatCzTr
set_option linter.all false
namespace Go.Proofs.YtpbcabanpppfoaaGreat
open Go Go.Gx Go.Vz
set_option maxRecDepth 100000
/-- The view that a node has reached. -/
def vw (l : List Int) (i : Nat) : Int := bif decide (i < l.length) then brg (l.getD i 0) 10 else 0
theorem vw_ok (l : List Int) (i : Nat) : 0 ≤ vw l i ∧ vw l i < 10 := by
  unfold vw
  cases decide (i < l.length) with
  | true => exact brg_ok (by decide) (by decide)
  | false => exact ⟨Int.le_refl 0, show (0 : Int) < 10 by decide⟩
def chE (l : List Int) (i : Nat) : Int × Said := (((i + 1 : Nat) : Int), dgS (says ((i + 1 : Nat) : Int) (vw l i) (byt ((i + 1 : Nat) : Int))))
def chI (l : List Int) (n : Nat) : List Nat := (List.range n).filter fun i => decide (0 < vw l i)
def chJ (l : List Int) (n : Nat) : List (Int × Said) := (chI l n).map (chE l)
theorem chI_succ {l : List Int} {n : Nat} : chI l (n + 1) = bif decide (0 < vw l n) then chI l n ++ [n] else chI l n := by
  unfold chI
  rw [List.range_succ, List.filter_append]
  cases h : decide (0 < vw l n) <;> simp [h]
theorem chJ_y {l : List Int} {n : Nat} (h : 0 < vw l n) : chJ l (n + 1) = chJ l n ++ [chE l n] := by
  unfold chJ
  rw [chI_succ, show decide (0 < vw l n) = true by simpa using h, cond_true, List.map_append]; rfl
theorem chJ_n {l : List Int} {n : Nat} (h : ¬ 0 < vw l n) : chJ l (n + 1) = chJ l n := by
  unfold chJ
  rw [chI_succ, show decide (0 < vw l n) = false by simpa using h, cond_false]
theorem chI_lt {l : List Int} {n i : Nat} (h : i ∈ chI l n) : i < n := List.mem_range.1 (List.mem_filter.1 h).1
theorem chJ_keys {l : List Int} {n : Nat} : ((chJ l n).map fun p : Int × Said => p.1) = (chI l n).map fun i : Nat => ((i + 1 : Nat) : Int) := by
  unfold chJ; rw [List.map_map]; rfl
theorem chJ_nodup {l : List Int} {n : Nat} : ((chJ l n).map fun p : Int × Said => p.1).Nodup := by
  rw [chJ_keys]
  refine List.Pairwise.map _ (fun a b h => ?_) (List.Pairwise.filter _ List.nodup_range : (chI l n).Pairwise (· ≠ ·))
  omega
theorem chJ_new {l : List Int} {n m : Nat} (h : n ≤ m) : ((m + 1 : Nat) : Int) ∉ (chJ l n).map fun p : Int × Said => p.1 := by
  rw [chJ_keys]
  intro hm
  obtain ⟨i, hi, e⟩ := List.mem_map.1 hm
  have := chI_lt hi
  omega
theorem chJ_len {l : List Int} {n : Nat} : (chJ l n).length ≤ n := by
  unfold chJ chI
  rw [List.length_map]
  exact Nat.le_trans (List.length_filter_le _ _) (by simp)
theorem chJ_okC {l : List Int} {n : Nat} (hn : n ≤ 100) : ∀ p ∈ chJ l n, okC p.2.change ∧ -1000000 ≤ p.1 ∧ p.1 ≤ 1000000 := by
  intro p hp
  obtain ⟨i, hi, rfl⟩ := List.mem_map.1 hp
  have := chI_lt hi
  refine ⟨⟨by show 1 ≤ _; omega, by show 0 ≤ _; omega, by show 1 ≤ _; omega⟩, ?_, ?_⟩
  · show (-1000000 : Int) ≤ ((i + 1 : Nat) : Int); omega
  · show ((i + 1 : Nat) : Int) ≤ 1000000; omega
theorem sd_view {ch : List (Int × Said)} (hn : (ch.map fun p : Int × Said => p.1).Nodup) : (ch.map fun p : Int × Said => p.1).map (fun x => (sd ch x).change.view) = ch.map fun p : Int × Said => p.2.change.view := by
  rw [List.map_map]
  refine List.map_congr_left fun p hp => ?_
  show (sd ch p.1).change.view = _
  unfold sd
  rw [sdO_of_mem hn hp]; rfl
def vwP (l : List Int) (n : Nat) : List Int := (chI l n).map (vw l)
theorem jnV_J {f me : Int} {l : List Int} {n : Nat} (h : (n : Int) < me) : jnV (KZ f me (chJ l n) []) (keysK (KZ f me (chJ l n) [])) = vwP l n := by
  show (((chJ l n).map fun p : Int × Said => p.1).filter fun x => x != me).map (fun x => (sd (chJ l n) x).change.view) = _
  rw [List.filter_eq_self.2 ?_, sd_view chJ_nodup]
  · unfold chJ vwP
    rw [List.map_map]; rfl
  · intro x hx
    rw [chJ_keys] at hx
    obtain ⟨i, hi, rfl⟩ := List.mem_map.1 hx
    have := chI_lt hi
    simp; omega
/-- The views that correct ones have reached. -/
def rcd (l : List Int) (F n : Nat) : List Int := ((List.range n).filter fun i => decide (F ≤ i)).map (vw l)
theorem rcd_y {l : List Int} {F n : Nat} (h : F ≤ n) : rcd l F (n + 1) = rcd l F n ++ [vw l n] := by
  unfold rcd
  rw [List.range_succ, List.filter_append, List.map_append]
  simp [h]
theorem rcd_n {l : List Int} {F n : Nat} (h : ¬ F ≤ n) : rcd l F (n + 1) = rcd l F n := by
  unfold rcd
  rw [List.range_succ, List.filter_append, List.map_append]
  simp [h]
theorem rcd_len {l : List Int} {F n : Nat} : (rcd l F n).length ≤ n := by
  unfold rcd
  rw [List.length_map]
  exact Nat.le_trans (List.length_filter_le _ _) (by simp)
abbrev geq (w : Int) (xs : List Int) : Nat := xs.countP fun y => decide (w ≤ y)
theorem geq_pos {l : List Int} {w : Int} (hw : 0 < w) : ∀ n, geq w (vwP l n) = ((List.range n).countP fun i => decide (w ≤ vw l i))
  | 0 => rfl
  | n + 1 => by
    have ih := geq_pos (l := l) hw n
    unfold vwP at ih ⊢
    rw [chI_succ, List.range_succ, List.countP_append, ← ih]
    cases h : decide (0 < vw l n) with
    | true => rw [cond_true, List.map_append, geq, List.countP_append]; rfl
    | false =>
      have h := of_decide_eq_false h
      have : decide (w ≤ vw l n) = false := by simp; omega
      simp [this, geq]
theorem geq_rcd {l : List Int} {w : Int} {F : Nat} : ∀ n, ((List.range n).countP fun i => decide (w ≤ vw l i)) ≤ min n F + geq w (rcd l F n) ∧ geq w (rcd l F n) ≤ ((List.range n).countP fun i => decide (w ≤ vw l i))
  | 0 => ⟨Nat.zero_le _, Nat.zero_le _⟩
  | n + 1 => by
    obtain ⟨h1, h2⟩ := geq_rcd (l := l) (w := w) (F := F) n
    rw [List.range_succ, List.countP_append]
    have h3 : List.countP (fun i => decide (w ≤ vw l i)) [n] ≤ 1 := List.countP_le_length
    by_cases h : F ≤ n
    · rw [rcd_y h, geq, List.countP_append]
      have : List.countP (fun y => decide (w ≤ y)) [vw l n] = List.countP (fun i => decide (w ≤ vw l i)) [n] := by simp [List.countP_cons]
      unfold geq at h1 h2
      omega
    · rw [rcd_n h]
      omega
section
variable {F : Nat} (hF : F = 1 ∨ F = 2) {l : List Int}
include hF
theorem some_F : someN (crewS (F : Int)) = (F : Int) + 1 := by
  rcases hF with rfl | rfl <;> rfl
/-- What Join answers. -/
theorem jn_law (a : Int) : (∃ r, jnP (KZ (F : Int) (3 * F + 1) (chJ l (3 * F)) []) a = (r, true, ()) ∧ a < r ∧ (0 ≤ a → ∃ w ∈ rcd l F (3 * F), r ≤ w) ∧ ∀ w, 0 < w → F < geq w (rcd l F (3 * F)) → w ≤ r) ∨
    (jnP (KZ (F : Int) (3 * F + 1) (chJ l (3 * F)) []) a = (0, false, ()) ∧ ∀ w, 0 < w → F < geq w (rcd l F (3 * F)) → w ≤ a) := by
  have hR : jnR (KZ (F : Int) (3 * F + 1) (chJ l (3 * F)) []) = isort (vwP l (3 * F)) := by
    unfold jnR; rw [jnV_J (by omega)]
  have hI : jnI (KZ (F : Int) (3 * F + 1) (chJ l (3 * F)) []) = ((isort (vwP l (3 * F))).length : Int) - ((F : Int) + 1) := by
    unfold jnI
    rw [hR]
    show _ - someN (crewS (F : Int)) = _
    rw [some_F hF]
  unfold jnP
  rw [hI, hR]
  generalize hS : isort (vwP l (3 * F)) = S
  have hs : S.Pairwise (· ≤ ·) := hS ▸ isort_sorted _
  have hc : ∀ w, 0 < w → geq w S = ((List.range (3 * F)).countP fun i => decide (w ≤ vw l i)) := fun w hw => by
    rw [← geq_pos hw, ← hS]
    exact (isort_perm _).countP_eq _
  cases h1 : decide (((S.length : Int) - ((F : Int) + 1)) < 0) with
  | true =>
    have h1 := of_decide_eq_true h1
    refine .inr ⟨rfl, fun w hw hg => ?_⟩
    have g1 := (geq_rcd (l := l) (w := w) (F := F) (3 * F)).2
    rw [← hc w hw] at g1
    have : geq w S ≤ S.length := List.countP_le_length
    omega
  | false =>
    have h1 := of_decide_eq_false h1
    have hi : ((S.length : Int) - ((F : Int) + 1)).toNat < S.length := by omega
    obtain ⟨A, B, x, e1, e2, e3, e4⟩ := spl hi
    rw [e3]
    have hB : B.length = F := by omega
    have up : ∀ w, 0 < w → F < geq w (rcd l F (3 * F)) → w ≤ x := fun w hw hg => by
      have g1 := (geq_rcd (l := l) (w := w) (F := F) (3 * F)).2
      rw [← hc w hw, e1] at g1
      rw [e1] at hs
      refine kth_le hs ?_
      unfold geq at g1 hg
      omega
    cases h2 : decide (x ≤ a) with
    | true =>
      have h2 := of_decide_eq_true h2
      exact .inr ⟨rfl, fun w hw hg => Int.le_trans (up w hw hg) h2⟩
    | false =>
      have h2 := of_decide_eq_false h2
      refine .inl ⟨x, rfl, by omega, fun ha => ?_, up⟩
      have hx : 0 < x := by omega
      have g1 : F + 1 ≤ geq x S := by
        rw [e1] at hs ⊢
        have := kth_ge hs
        unfold geq; omega
      rw [hc x hx] at g1
      have g2 := (geq_rcd (l := l) (w := x) (F := F) (3 * F)).1
      have g3 : 0 < geq x (rcd l F (3 * F)) := by omega
      obtain ⟨w, hw, hq⟩ := List.countP_pos_iff.1 g3
      exact ⟨w, hw, of_decide_eq_true hq⟩
end
end Go.Proofs.YtpbcabanpppfoaaGreat

namespace Go.Vz
open Go Go.Gx
variable {E : DE} {P : Program} (F : DF E) (Z : ZF P E)
def conN (Γ : Nat → Option (Con E)) (els : CallH E) : CallH E := fun f l s K => match Γ f with
  | some c => match frzs s l with
    | some s1 => match shutVs F s1.bs c.ts (l.map (rsv s1.hp)) with
      | some a => match c.pre with
        | none => Nmd (c.ret a) fun q => K s1 (outV F c.rt q)
        | some p => Pre (p a) ∧ Nmd (c.ret a) fun q => K s1 (outV F c.rt q)
      | none => No f
    | none => No f
  | none => els f l s K
variable {F}
theorem conN_h {Γ : Nat → Option (Con E)} {els : CallH E} {f : Nat} {l : List (SV E)} {s : St E} {K : St E → SV E → Prop} (h : conN F Γ els f l s K) : conH F Γ els f l s K := by
  unfold conN at h
  unfold conH
  cases hc : Γ f with
  | none => simp only [hc] at h ⊢; exact h
  | some c =>
    simp only [hc] at h ⊢
    cases hs : frzs s l with
    | none => simp only [hs] at h; exact h.elim
    | some s1 =>
      simp only [hs] at h ⊢
      cases ha : shutVs F s1.bs c.ts (l.map (rsv s1.hp)) with
      | none => simp only [ha] at h; exact h.elim
      | some a =>
        simp only [ha] at h ⊢
        cases hq : c.pre with
        | none => simp only [hq] at h ⊢; obtain ⟨h⟩ := h; exact h _ rfl
        | some p => simp only [hq] at h ⊢; obtain ⟨h1, ⟨h⟩⟩ := h; exact ⟨h1, h _ rfl⟩
theorem conN_ok {Γ : Nat → Option (Con E)} (hΓ : ∀ f c, Γ f = some c → c.ok P f) {els : CallH E} (he : CallAll P els) : CallAll P (conN F Γ els) :=
  fun w0 G0 f args s K m w vs rh hl hv h => conH_ok F hΓ he w0 G0 f args s K m w vs rh hl hv (conN_h h)

end Go.Vz

namespace Go.Proofs.YtpbcabanpppfoaaGreat
open Go Go.Gx Go.Vz
set_option maxRecDepth 100000
abbrev ΓB : Nat → Option (Con D) := addC noC 9 bring_c
theorem KB : Kept EF Tryz.prog ΓB noO := K0.c bring_ok
/-- Calls of the statements. -/
noncomputable abbrev callW (Γ : Nat → Option (Con D)) (Δ : Nat → Option (OCon D)) (H : Nat → Nat → Option (Hint D)) (n : Nat) : CallH D := conN EF ΓB (callsG EF ZL ΛL Γ Δ H n)
theorem callW_ok {Γ : Nat → Option (Con D)} {Δ : Nat → Option (OCon D)} (h : Kept EF Tryz.prog Γ Δ) (H : Nat → Nat → Option (Hint D)) (n : Nat) : CallAll Tryz.prog (callW Γ Δ H n) := conN_ok KB.g (callsG_ok Ll h n)
end Go.Proofs.YtpbcabanpppfoaaGreat

namespace Go.Proofs.YtpbcabanpppfoaaGreat
open Go Go.Gx Go.Vz
set_option maxRecDepth 100000
section
variable {f : Int} (hf : f = 1 ∨ f = 2) {w : Word} {q : Int × Unit}
theorem wI {x : Int} (h1 : 0 ≤ x) (h2 : x ≤ 100) : IntKind.wrap .i64 x = x := IntWalk.i64_in _ (by omega)
end
/-! ### 18 Word.change -/
/-! ### 19 Word.note -/
/-! ### 17 notes -/
abbrev Γnt : Nat → Option (Con D) := addC ΓL 49 chg_c
abbrev Δnt : Nat → Option (OCon D) := addO ΔM 50 bo_c
end Go.Proofs.YtpbcabanpppfoaaGreat

namespace Go.Proofs.YtpbcabanpppfoaaGreat
open Go Go.Gx Go.Vz
set_option maxRecDepth 100000
abbrev eP : List Nat := [0, 1, 2, 6, 7, 8]
/-- The entries of a council, in the order of a statement's. -/
abbrev pK (k : KD) : EL D PS := (k.2.1, kSn k, kMo k, k.1, kCh k, kAk k, ())
section
variable {B V : Int} {F : UInt8} {k : KD}
variable {b : UInt8}
end
abbrev Γa : Nat → Option (Con D) := addC ΓL 16 awk_c
theorem Ka : Kept EF Tryz.prog Γa ΔM := KM1.c awk_ok
end Go.Proofs.YtpbcabanpppfoaaGreat

namespace Go.Proofs.YtpbcabanpppfoaaGreat
open Go Go.Gx Go.Vz
set_option maxRecDepth 100000
/-- How many lie. -/
def fN (x : Int) : Nat := (1 + brg x 2).toNat
theorem fN_ok (x : Int) : fN x = 1 ∨ fN x = 2 := by
  have := brg_ok (x := x) (n := 2) (by decide) (by decide)
  unfold fN; omega
theorem fN_int (x : Int) : ((fN x : Nat) : Int) = 1 + brg x 2 := by
  have := brg_ok (x := x) (n := 2) (by decide) (by decide)
  unfold fN; omega
/-- Of a council that was told of the first n nodes' views. -/
abbrev jI (l : List Int) (F n : Nat) (k : KD) : Prop := Fct (F : Int) (3 * F + 1) (chJ l n) [] k
def ja_h (l : List Int) (F : Nat) : LH D := ⟨EL D PS × Int × List Int × Nat, [9, 10, 11], fun i => [iv i.2.1, .own 0, iv ((i.2.2.2 + 1 : Nat) : Int)], fun i => i.2.2.2 ≤ 3 * F ∧ jI l F i.2.2.2 (kP i.1) ∧ i.2.2.1 = rcd l F i.2.2.2 ∧ (∀ w ∈ rcd l F i.2.2.2, w ≤ i.2.1), fun i => 3 * F - i.2.2.2, [(.sl 10, .int, 3)], fun i => [.arr .int 3 i.2.2.1], eP, fun i => opnEs EF PS eP PS i.1⟩
def jb_h (n : Nat) : LH D := ⟨Nat, [16], fun i => [iv (i : Int)], fun i => i ≤ n, fun i => n - i, [], fun _ => [], [], fun _ => []⟩
def jc_h (xs : List Int) (x : Int) : LH D := ⟨Nat × Nat, [17, 18], fun i => [iv (i.1 : Int), iv (i.2 : Int)], fun i => i.2 ≤ xs.length ∧ i.1 = geq x (xs.take i.2), fun i => xs.length - i.2, [], fun _ => [], [], fun _ => []⟩
def jw_c : Con D := { ts := [.int, .sl .int, .int], rt := [.bool], ret := fun _ => (true, ()) }
def jwH (a : HL D jw_c.ts) : Nat → Nat → Option (Hint D) := fun f r => match f, r with
  | 3, 6 => some (.inv (ja_h a.2.1 (fN a.1)))
  | 3, 21 => some (.dep fun s => .inv (jb_h (owI s 10).length))
  | 3, 25 => some (.dep fun s => .inv (jc_h (owI s 10) ((owI s 10).getD (slI s 16).toNat 0)))
  | _, _ => none
end Go.Proofs.YtpbcabanpppfoaaGreat
