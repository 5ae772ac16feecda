/- Change: note.Check on notes that tell a change, and that one was heard, walked by reckoning. No condition. -/
import Derived.Test.YtpbcabanpppfoaaGreatCzW
import Derived.Test.YtpbcabanpppfoaaGreatCzN
import Derived.Test.YtpbcabanpppfoaaGreatCzA
set_option linter.all false
namespace Go.Proofs.YtpbcabanpppfoaaGreat
open Go Go.Gx Go.Vz
set_option maxRecDepth 100000
abbrev Γx : Nat → Option (Con D) := addC (addC (addC (addC (addC (addC (addC (addC Γh 286 numS_c) 300 tkS_c) 298 tkF_c) 153 (isT_c 1 28)) 191 (isT_c 0 1048576)) 120 chM_c) 152 within_c) 306 clB_c
theorem Kw2 : Kept EF Tryz.prog Γx noO := (((((((Kh.c numS_ok).c tkS_ok).c tkF_ok).c isNode_ok).c isView_ok).c chM_ok).c within_ok).c clB_ok
noncomputable def Zw : ZF Tryz.prog D := Z0.side Kw2
theorem numS_len (k : Nat) : (numS (k : Int)).length ≤ 2 := by cases k <;> simp [numS]
abbrev Tk (l : List UInt8) : Prop := ∃ (k : Nat) (r : List UInt8), k ≤ 255 ∧ r.length ≤ 1000 ∧ l = numS (k : Int) ++ r
theorem tkP {k n : Nat} {r : List UInt8} (hk : k ≤ 255) (hr : r.length ≤ n) (hn : n ≤ 1000) : Tk (numS (k : Int) ++ r) := ⟨k, r, hk, Nat.le_trans hr hn, rfl⟩
theorem lnS {k n : Nat} {r : List UInt8} (hr : r.length ≤ n) : (numS (k : Int) ++ r).length ≤ n + 2 := by rw [List.length_append]; have := numS_len k; omega
theorem lnD {d : Dig} {n : Nat} {r : List UInt8} (hr : r.length ≤ n) : (d.l ++ r).length ≤ n + 32 := by rw [List.length_append, d.h]; omega
abbrev isP (k : Nat) : Prop := isS ((k : Nat) : Int)
theorem isPm {k : Nat} (h : k ≤ 255) : isP k := ⟨k, h, rfl⟩
abbrev uN (k : Nat) : Int := (((UInt8.ofNat (k + 1)).toNat : Nat) : Int)
theorem uN_eq {k : Nat} (h : k + 1 ≤ 255) : uN k = ((k + 1 : Nat) : Int) := by unfold uN; congr 1; simp; omega
def ck_c (p : Note → Prop) : Con D := { ts := [.st 7], rt := [.int], pre := some (fun a => p a.1), ret := fun _ => (0, ()) }
/-! ### of a note that tells -/
section
variable (i : Nat × Nat × UInt8)
abbrev qt14 : List UInt8 := numS ((0 : Nat) : Int) ++ []
abbrev qt13 : List UInt8 := (dig2 i.2.2 1).l ++ qt14 
abbrev qt12 : List UInt8 := numS ((1 : Nat) : Int) ++ qt13 i
abbrev qt11 : List UInt8 := numS ((1 : Nat) : Int) ++ qt12 i
abbrev qt10 : List UInt8 := numS ((0 : Nat) : Int) ++ qt11 i
abbrev qt9 : List UInt8 := (dig1 9).l ++ qt10 i
abbrev qt8 : List UInt8 := numS ((0 : Nat) : Int) ++ qt9 i
abbrev qt7 : List UInt8 := numS ((1 : Nat) : Int) ++ qt8 i
abbrev qt6 : List UInt8 := numS ((0 : Nat) : Int) ++ qt7 i
abbrev qt5 : List UInt8 := numS (((i.2.1 + 1) : Nat) : Int) ++ qt6 i
abbrev qt4 : List UInt8 := numS (((i.1 + 1) : Nat) : Int) ++ qt5 i
abbrev qt3 : List UInt8 := numS ((1 : Nat) : Int) ++ qt4 i
abbrev qt2 : List UInt8 := numS ((1 : Nat) : Int) ++ qt3 i
abbrev qt1 : List UInt8 := numS (((i.1 + 1) : Nat) : Int) ++ qt2 i
abbrev qt0 : List UInt8 := numS ((7 : Nat) : Int) ++ qt1 i
theorem qtL14 : (qt14 ).length ≤ 2 := lnS (Nat.le_refl 0)
theorem qtL13 : (qt13 i).length ≤ 34 := lnD (qtL14 )
theorem qtL12 : (qt12 i).length ≤ 36 := lnS (qtL13 i)
theorem qtL11 : (qt11 i).length ≤ 38 := lnS (qtL12 i)
theorem qtL10 : (qt10 i).length ≤ 40 := lnS (qtL11 i)
theorem qtL9 : (qt9 i).length ≤ 72 := lnD (qtL10 i)
theorem qtL8 : (qt8 i).length ≤ 74 := lnS (qtL9 i)
theorem qtL7 : (qt7 i).length ≤ 76 := lnS (qtL8 i)
theorem qtL6 : (qt6 i).length ≤ 78 := lnS (qtL7 i)
theorem qtL5 : (qt5 i).length ≤ 80 := lnS (qtL6 i)
theorem qtL4 : (qt4 i).length ≤ 82 := lnS (qtL5 i)
theorem qtL3 : (qt3 i).length ≤ 84 := lnS (qtL4 i)
theorem qtL2 : (qt2 i).length ≤ 86 := lnS (qtL3 i)
theorem qtL1 : (qt1 i).length ≤ 88 := lnS (qtL2 i)
end
abbrev rdT (i : Nat × Nat × UInt8) : Note := ⟨7, uN i.1, 1, 1, 0, 0, Dig.zero, [], ⟨0, [], 0, []⟩, 0, 0, ⟨uN i.1, uN i.2.1, 0, [⟨0, dig1 9⟩], [], [⟨1, dig2 i.2.2 1, 0⟩]⟩, [], [], 0, 0, [], [], []⟩
theorem rdT_eq {i : Nat × Nat × UInt8} (h : okN i) : rdT i = tells (saysN i) := by
  unfold rdT tells saysN says
  rw [uN_eq (by have := h.1; omega), uN_eq h.2]
theorem ckT_ok : (ck_c fun n => ∃ i, n = tells (saysN i) ∧ okN i).ok Tryz.prog 39 := Con.proveS (c := ck_c fun n => ∃ i, n = tells (saysN i) ∧ okN i) EF Zw Kw2 (fun i => (tells (saysN i), ())) okN (fun a ⟨i, h, hq⟩ => ⟨i, by obtain ⟨x, u⟩ := a; have h : x = _ := h; rw [h], hq⟩) (H := HU) (n := 8) fun (i : Nat × Nat × UInt8) (hq : okN i) =>
  have q1 : i.1 + 1 ≤ 28 := hq.1
  have q2 : i.2.1 + 1 ≤ 255 := hq.2
  And.intro (Pre.mk ⟨by omega, by omega⟩ : Pre ((1 : Int) ≤ ((i.1 + 1 : Nat) : Int) ∧ ((i.1 + 1 : Nat) : Int) ≤ 28)) (
  And.intro (Pre.mk ⟨((i.1 + 1 : Nat), (i.2.1 + 1 : Nat), i.2.2), rfl, by show (1 : Int) ≤ ((i.1 + 1 : Nat) : Int); omega, by show ((i.1 + 1 : Nat) : Int) ≤ 28; omega, by show (1 : Int) ≤ ((i.2.1 + 1 : Nat) : Int); omega, by show ((i.2.1 + 1 : Nat) : Int) ≤ 255; omega⟩ : Pre (∃ j : Int × Int × UInt8, ((saysN i, ()) : Change × Unit) = (says j.1 j.2.1 j.2.2, ()) ∧ chOk j)) (
  bq (!(((i.1 + 1 : Nat) : Int) == ((i.1 + 1 : Nat) : Int))) (fun h => (by simp at h : some ((2 : Int), ()) = some ((0 : Int), ()))) (fun _ =>
  And.intro (Pre.mk (isPm (by omega)) : Pre (isP 7)) (
  And.intro (Pre.mk (isPm (by omega)) : Pre (isP (i.1 + 1))) (
  And.intro (Pre.mk (isPm (by omega)) : Pre (isP 1)) (
  And.intro (Pre.mk (isPm (by omega)) : Pre (isP 1)) (
  And.intro (Pre.mk (isPm (by omega)) : Pre (isP (i.1 + 1))) (
  And.intro (Pre.mk (isPm q2) : Pre (isP (i.2.1 + 1))) (
  And.intro (Pre.mk (isPm (by omega)) : Pre (isP 0)) (
  And.intro (Pre.mk (isPm (by omega)) : Pre (isP 1)) (
  And.intro (Pre.mk (isPm (by omega)) : Pre (isP 0)) (
  And.intro (Pre.mk (isPm (by omega)) : Pre (isP 0)) (
  And.intro (Pre.mk (isPm (by omega)) : Pre (isP 1)) (
  And.intro (Pre.mk (isPm (by omega)) : Pre (isP 1)) (
  And.intro (Pre.mk (isPm (by omega)) : Pre (isP 0)) (
  And.intro (Pre.mk (tkP (by omega) (qtL1 i) (by omega)) : Pre (Tk (qt0 i))) (
  And.intro (Pre.mk (tkP (by omega) (qtL2 i) (by omega)) : Pre (Tk (qt1 i))) (
  And.intro (Pre.mk (tkP (by omega) (qtL3 i) (by omega)) : Pre (Tk (qt2 i))) (
  And.intro (Pre.mk (tkP (by omega) (qtL4 i) (by omega)) : Pre (Tk (qt3 i))) (
  And.intro (Pre.mk (tkP (by omega) (qtL5 i) (by omega)) : Pre (Tk (qt4 i))) (
  And.intro (Pre.mk (tkP q2 (qtL6 i) (by omega)) : Pre (Tk (qt5 i))) (
  And.intro (Pre.mk (tkP (by omega) (qtL7 i) (by omega)) : Pre (Tk (qt6 i))) (
  And.intro (Pre.mk (tkP (by omega) (qtL8 i) (by omega)) : Pre (Tk (qt7 i))) (
  And.intro (Pre.mk (tkP (by omega) (qtL9 i) (by omega)) : Pre (Tk (qt8 i))) (
  And.intro (Pre.mk (Nat.le_trans (qtL9 i) (by omega)) : Pre ((qt9 i).length ≤ 1000000)) (
  And.intro (Pre.mk (tkP (by omega) (qtL11 i) (by omega)) : Pre (Tk (qt10 i))) (
  And.intro (Pre.mk (tkP (by omega) (qtL12 i) (by omega)) : Pre (Tk (qt11 i))) (
  And.intro (Pre.mk (tkP (by omega) (qtL13 i) (by omega)) : Pre (Tk (qt12 i))) (
  And.intro (Pre.mk (Nat.le_trans (qtL13 i) (by omega)) : Pre ((qt13 i).length ≤ 1000000)) (
  And.intro (Pre.mk (tkP (by omega) (Nat.le_refl 0) (by omega)) : Pre (Tk (qt14 ))) (
  bq (!dq (α := Note) (tells (saysN i)) (rdT i)) (fun h => (by rw [rdT_eq hq] at h; simp [dq] at h : some ((2 : Int), ()) = some ((0 : Int), ()))) (fun _ =>
  (rfl : some ((0 : Int), ()) = some ((0 : Int), ()))))))))))))))))))))))))))))))))))
/-! ### of a note that a change was heard -/
abbrev mkD (f : Nat → UInt8) : Dig := ⟨[f 0, f 1, f 2, f 3, f 4, f 5, f 6, f 7, f 8, f 9, f 10, f 11, f 12, f 13, f 14, f 15, f 16, f 17, f 18, f 19, f 20, f 21, f 22, f 23, f 24, f 25, f 26, f 27, f 28, f 29, f 30, f 31], rfl⟩
theorem mkD_eq (d : Dig) : d = mkD fun j => d.l.getD j 0 := by
  obtain ⟨l, h⟩ := d
  match l, h with
  | [a0, a1, a2, a3, a4, a5, a6, a7, a8, a9, a10, a11, a12, a13, a14, a15, a16, a17, a18, a19, a20, a21, a22, a23, a24, a25, a26, a27, a28, a29, a30, a31], _ => rfl
abbrev ackNt (from_ view node : Int) (d : Dig) : Note := ⟨8, from_, 1, 1, view, 0, d, [], ⟨0, [], 0, []⟩, 0, node, ⟨0, 0, 0, [], [], []⟩, [], [], 0, 0, [], [], []⟩
abbrev AI := Nat × Nat × Nat × (Nat → UInt8)
abbrev ackI (i : AI) : Note := ackNt ((i.1 + 1 : Nat) : Int) ((i.2.1 + 1 : Nat) : Int) ((i.2.2.1 + 1 : Nat) : Int) (mkD i.2.2.2)
abbrev okA (i : AI) : Prop := i.1 + 1 ≤ 28 ∧ i.2.1 + 1 ≤ 255 ∧ i.2.2.1 + 1 ≤ 28 ∧ i.1 ≠ i.2.2.1
section
variable (i : AI)
abbrev qa6 : List UInt8 := (mkD i.2.2.2).l ++ []
abbrev qa5 : List UInt8 := numS (((i.2.2.1 + 1) : Nat) : Int) ++ qa6 i
abbrev qa4 : List UInt8 := numS (((i.2.1 + 1) : Nat) : Int) ++ qa5 i
abbrev qa3 : List UInt8 := numS ((1 : Nat) : Int) ++ qa4 i
abbrev qa2 : List UInt8 := numS ((1 : Nat) : Int) ++ qa3 i
abbrev qa1 : List UInt8 := numS (((i.1 + 1) : Nat) : Int) ++ qa2 i
abbrev qa0 : List UInt8 := numS ((8 : Nat) : Int) ++ qa1 i
theorem qaL6 : (qa6 i).length ≤ 32 := lnD (Nat.le_refl 0)
theorem qaL5 : (qa5 i).length ≤ 34 := lnS (qaL6 i)
theorem qaL4 : (qa4 i).length ≤ 36 := lnS (qaL5 i)
theorem qaL3 : (qa3 i).length ≤ 38 := lnS (qaL4 i)
theorem qaL2 : (qa2 i).length ≤ 40 := lnS (qaL3 i)
theorem qaL1 : (qa1 i).length ≤ 42 := lnS (qaL2 i)
end
abbrev rdA (i : AI) : Note := ackNt (uN i.1) (uN i.2.1) (uN i.2.2.1) (mkD i.2.2.2)
theorem rdA_eq {i : AI} (h : okA i) : rdA i = ackI i := by
  unfold rdA ackI
  rw [uN_eq (by have := h.1; omega), uN_eq h.2.1, uN_eq (by have := h.2.2.1; omega)]
theorem ckA_ok : (ck_c fun n => ∃ i, n = ackI i ∧ okA i).ok Tryz.prog 39 := Con.proveS (c := ck_c fun n => ∃ i, n = ackI i ∧ okA i) EF Zw Kw2 (fun i => (ackI i, ())) okA (fun a ⟨i, h, hq⟩ => ⟨i, by obtain ⟨x, u⟩ := a; have h : x = _ := h; rw [h], hq⟩) (H := HU) (n := 8) fun (i : AI) (hq : okA i) =>
  have q1 : i.1 + 1 ≤ 28 := hq.1
  have q2 : i.2.1 + 1 ≤ 255 := hq.2.1
  have q3 : i.2.2.1 + 1 ≤ 28 := hq.2.2.1
  have q4 : i.1 ≠ i.2.2.1 := hq.2.2.2
  And.intro (Pre.mk ⟨by omega, by omega⟩ : Pre ((1 : Int) ≤ ((i.1 + 1 : Nat) : Int) ∧ ((i.1 + 1 : Nat) : Int) ≤ 28)) (
  And.intro (Pre.mk ⟨by omega, by omega⟩ : Pre ((0 : Int) ≤ ((i.2.1 + 1 : Nat) : Int) ∧ ((i.2.1 + 1 : Nat) : Int) ≤ 1048576)) (
  bq (decide ((0 : Int) < ((i.2.1 + 1 : Nat) : Int))) (fun _ =>
  And.intro (Pre.mk ⟨by omega, by omega⟩ : Pre ((1 : Int) ≤ ((i.2.2.1 + 1 : Nat) : Int) ∧ ((i.2.2.1 + 1 : Nat) : Int) ≤ 28)) (
  bq (!(((i.2.2.1 + 1 : Nat) : Int) != ((i.1 + 1 : Nat) : Int))) (fun h => (by
      have h : ((i.2.2.1 + 1 : Nat) : Int) = ((i.1 + 1 : Nat) : Int) := by simpa using h
      exact absurd (by omega) q4 : some ((2 : Int), ()) = some ((0 : Int), ()))) (fun _ =>
  And.intro (Pre.mk (isPm (by omega)) : Pre (isP 8)) (
  And.intro (Pre.mk (isPm (by omega)) : Pre (isP (i.1 + 1))) (
  And.intro (Pre.mk (isPm (by omega)) : Pre (isP 1)) (
  And.intro (Pre.mk (isPm (by omega)) : Pre (isP 1)) (
  And.intro (Pre.mk (isPm (by omega)) : Pre (isP (i.2.1 + 1))) (
  And.intro (Pre.mk (isPm (by omega)) : Pre (isP (i.2.2.1 + 1))) (
  And.intro (Pre.mk (tkP (by omega) (qaL1 i) (by omega)) : Pre (Tk (qa0 i))) (
  And.intro (Pre.mk (tkP (by omega) (qaL2 i) (by omega)) : Pre (Tk (qa1 i))) (
  And.intro (Pre.mk (tkP (by omega) (qaL3 i) (by omega)) : Pre (Tk (qa2 i))) (
  And.intro (Pre.mk (tkP (by omega) (qaL4 i) (by omega)) : Pre (Tk (qa3 i))) (
  And.intro (Pre.mk (tkP (by omega) (qaL5 i) (by omega)) : Pre (Tk (qa4 i))) (
  And.intro (Pre.mk (tkP (by omega) (qaL6 i) (by omega)) : Pre (Tk (qa5 i))) (
  And.intro (Pre.mk (Nat.le_trans (qaL6 i) (by omega)) : Pre ((qa6 i).length ≤ 1000000)) (
  bq (!dq (α := Note) (ackI i) (rdA i)) (fun h => (by rw [rdA_eq hq] at h; simp [dq] at h : some ((2 : Int), ()) = some ((0 : Int), ()))) (fun _ =>
  (rfl : some ((0 : Int), ()) = some ((0 : Int), ())))))))))))))))))))
  (fun h => (by have := of_decide_eq_false h; omega : some ((2 : Int), ()) = some ((0 : Int), ())))))
end Go.Proofs.YtpbcabanpppfoaaGreat

namespace Go.Proofs.YtpbcabanpppfoaaGreat
open Go Go.Gx Go.Vz
set_option maxRecDepth 100000
abbrev KS : List ES := [.box 93 [.nm 1, .dat (.st 0), .dat .int, .dat .int, .dat .int, .nm 2, .nm 3], .box 107 [.nm 4, .nm 5, .dat .int], .map .int (.st 8), .map (.st 10) (.st 9), .map .dig .str, .map .str .bool]
abbrev KD := EL D KS
/-- Is it a change that a word says? -/
abbrev isW (c : Change) : Prop := ∃ i : Int × Int × UInt8, c = says i.1 i.2.1 i.2.2 ∧ chOk i
abbrev isTell (n : Note) : Prop := ∃ i, n = tells (saysN i) ∧ okN i
abbrev isAck (n : Note) : Prop := ∃ i, n = ackI i ∧ okA i
abbrev isNt (n : Note) : Prop := isTell n ∨ isAck n
theorem ck_ok : (ck_c isNt).ok Tryz.prog 39 := by
  intro a G w vs hw hp hv
  rcases (hp : isTell a.1 ∨ isAck a.1) with h | h
  · exact ckT_ok a G w vs hw h hv
  · exact ckA_ok a G w vs hw h hv
abbrev Γc : Nat → Option (Con D) := addC (addC (addC (addC (addC (addC (addC (addC (addC noC 40 has_c) 46 some_c) 59 check_c) 60 clI_c) 95 clM_c) 96 clS_c) 83 chg_c) 43 ch_c) 39 (ck_c isNt)
abbrev Δc : Nat → Option (OCon D) := addO (addO noO 50 bo_c) 21 bc_c
theorem Kc : Kept EF Tryz.prog Γc Δc := ((((((((((K0.c has_ok).c some_ok).c check_ok).c clI_ok).c clM_ok).c clS_ok).c chg_ok).c ch43_ok).c ck_ok).o bo_ok).o bc_ok
end Go.Proofs.YtpbcabanpppfoaaGreat

namespace Go.Proofs.YtpbcabanpppfoaaGreat
open Go Go.Gx Go.Vz
set_option maxRecDepth 100000
/-! ### 92 crew.Others -/
def ix_h (xs : List Int) (w : Int) : LH D := ⟨Nat, [8], fun i => [iv i], fun i => i ≤ xs.length ∧ ∀ x ∈ xs.take i, x ≠ w, fun i => xs.length - i, [], fun _ => [], [], fun _ => []⟩
def dlF (xs : List Int) (w : Int) (j : Nat) : List Int := (xs.take j).filter fun x => !(x == w)
def dlL (xs : List Int) (w : Int) (j : Nat) : List Int := dlF xs w j ++ xs.drop (dlF xs w j).length
def dl_h (xs : List Int) (w : Int) : LH D := ⟨Nat, [0, 5, 6], fun j => [.own 0, iv (dlF xs w j).length, iv j], fun j => j ≤ xs.length, fun j => xs.length - j, [(.sl 0, .int, 3)], fun j => [.arr .int 3 (dlL xs w j)], [], fun _ => []⟩
def othS (c : Crew) (w : Int) : List Int := bif check c != 0 then [] else c.nodes.filter fun x => !(x == w)
def oth_c : Con D := { ts := [.st 0, .int], rt := [.sl .int], pre := some (fun a => a.1.nodes.length ≤ 1000000), ret := fun a => (othS a.1 a.2.1, ()) }
def othH (a : HL D oth_c.ts) : Nat → Nat → Option (Hint D) := fun f r => match f, r with | 180, 2 => some (.inv (ix_h a.1.nodes a.2.1)) | 141, 5 => some (.inv (dl_h a.1.nodes a.2.1)) | _, _ => none
section
variable {xs : List Int} {w : Int}
theorem dlF_le {j : Nat} (h : j ≤ xs.length) : (dlF xs w j).length ≤ j := Nat.le_trans (List.length_filter_le _ _) (by rw [List.length_take]; omega)
theorem dlL_len {j : Nat} (h : j ≤ xs.length) : (dlL xs w j).length = xs.length := by
  unfold dlL; rw [List.length_append, List.length_drop]; have := dlF_le (w := w) h; omega
theorem dlL_get {j : Nat} (h : j < xs.length) : (dlL xs w j).getD j 0 = xs.getD j 0 := by
  have h1 := dlF_le (w := w) (Nat.le_of_lt h)
  unfold dlL
  rw [List.getD_eq_getElem?_getD, List.getElem?_append_right h1, List.getElem?_drop, List.getD_eq_getElem?_getD, show (dlF xs w j).length + (j - (dlF xs w j).length) = j from by omega]
theorem dlF_y {j : Nat} (h : j < xs.length) (e : (!(xs.getD j 0 == w)) = true) : dlF xs w (j + 1) = dlF xs w j ++ [xs.getD j 0] := by
  unfold dlF
  have e' : xs[j] ≠ w := by simpa [List.getD_eq_getElem?_getD, List.getElem?_eq_getElem h] using e
  rw [List.take_succ_eq_append_getElem h, List.filter_append]
  simp [List.getD_eq_getElem?_getD, List.getElem?_eq_getElem h, e']
theorem dlF_n {j : Nat} (h : j < xs.length) (e : (!(xs.getD j 0 == w)) = false) : dlF xs w (j + 1) = dlF xs w j := by
  unfold dlF
  have e' : xs[j] = w := by simpa [List.getD_eq_getElem?_getD, List.getElem?_eq_getElem h] using e
  rw [List.take_succ_eq_append_getElem h, List.filter_append]
  simp [e']
theorem dlL_y {j : Nat} (h : j < xs.length) (e : (!(xs.getD j 0 == w)) = true) : (dlL xs w j).set (dlF xs w j).length (xs.getD j 0) = dlL xs w (j + 1) := by
  have h1 := dlF_le (w := w) (Nat.le_of_lt h)
  unfold dlL
  rw [dlF_y h e, List.set_append_right _ _ (Nat.le_refl _), Nat.sub_self, List.drop_eq_getElem_cons (by omega), List.set_cons_zero, List.length_append, List.append_assoc]
  rfl
theorem dlL_0 {i : Nat} (h : ∀ x ∈ xs.take i, x ≠ w) (e : xs.getD i 0 = w) (hi : i < xs.length) : dlF xs w (i + 1) = xs.take i ∧ dlL xs w (i + 1) = xs := by
  have h1 : dlF xs w (i + 1) = xs.take i := by
    rw [dlF_n hi (by rw [e]; simp)]
    exact List.filter_eq_self.2 fun x hx => by simpa using h x hx
  refine ⟨h1, ?_⟩
  unfold dlL
  rw [h1, List.length_take, Nat.min_eq_left (Nat.le_of_lt hi), List.take_append_drop]
theorem wr1 {i : Nat} (h : i ≤ 1000000) : IntKind.wrap .i64 ((i : Int) + 1) = ((i + 1 : Nat) : Int) := by rw [← Int.natCast_succ]; exact wrap_i64_nat (by omega)
end
theorem oth_ok : oth_c.ok Tryz.prog 92 := Con.prove (c := oth_c) EF Z0 (K0.c check_ok) (H := othH) (n := 4) fun (a : HL D oth_c.ts) (hp : oth_c.holds a) =>
  have hp : a.1.nodes.length ≤ 1000000 := hp
  bq (check a.1 != (0 : Int)) (fun h1 => (by simp only [oth_c, othS, h1, cond_true] : some ([], ()) = some (oth_c.ret a))) (fun h1 =>
  have hr : oth_c.ret a = (a.1.nodes.filter fun x => !(x == a.2.1), ()) := by simp only [oth_c, othS, h1, cond_false]
  Nl.mk (xs := a.1.nodes) (fun h2 =>
    And.intro (⟨(0 : Nat), rfl, rfl, rfl, Nat.zero_le _, fun x hx => by simp at hx⟩ : Ent (ix_h a.1.nodes a.2.1) [SV.i IntKind.i64 (0 : Int)] [] []) (
    fun (i : Nat) (_ : i ≤ a.1.nodes.length ∧ ∀ x ∈ a.1.nodes.take i, x ≠ a.2.1) =>
    (by rw [hr, h2]; rfl : some ([], ()) = some (oth_c.ret a)))) (
  brN (c := Nat.ble ((0 + a.1.nodes.length) * mulB Tryz.prog 3) maxL) (by rw [mb3]; exact Nat.ble_eq_true_of_le (by unfold maxL; omega)) (
  And.intro (⟨(0 : Nat), rfl, rfl, rfl, Nat.zero_le _, fun x hx => by simp at hx⟩ : Ent (ix_h a.1.nodes a.2.1) [SV.i IntKind.i64 (0 : Int)] [] []) (
  fun (i : Nat) (hI : i ≤ a.1.nodes.length ∧ ∀ x ∈ a.1.nodes.take i, x ≠ a.2.1) =>
  bq (decide ((i : Int) < (a.1.nodes.length : Int))) (fun h3 =>
    have hi : i < a.1.nodes.length := by have := of_decide_eq_true h3; omega
    brN (c := decide ((0 : Int) ≤ (i : Int)) && decide ((i : Int) < (a.1.nodes.length : Int))) (by simp; omega) (
    bq (a.1.nodes.getD i 0 == a.2.1) (fun h4 =>
      have h4 : a.1.nodes.getD i 0 = a.2.1 := by simpa using h4
      have h0 := dlL_0 hI.2 h4 hi
      And.intro (⟨(i + 1 : Nat), by
          show [SV.own 0, SV.i IntKind.i64 (i : Int), SV.i IntKind.i64 (IntKind.wrap IntKind.i64 ((i : Int) + 1))] = [SV.own 0, iv (dlF a.1.nodes a.2.1 (i + 1)).length, iv ((i + 1 : Nat) : Int)]
          rw [h0.1, List.length_take, Nat.min_eq_left hI.1, wr1 (by omega)], by
          show _ = [HB.arr .int 3 (dlL a.1.nodes a.2.1 (i + 1))]
          rw [h0.2], rfl, hi⟩ : Ent (dl_h a.1.nodes a.2.1) [SV.own 0, SV.i IntKind.i64 (i : Int), SV.i IntKind.i64 (IntKind.wrap IntKind.i64 ((i : Int) + 1))] [HB.arr .int 3 a.1.nodes] []) (
      fun (j : Nat) (hj : j ≤ a.1.nodes.length) =>
      have hl := dlL_len (w := a.2.1) hj
      have hf := dlF_le (w := a.2.1) hj
      bq (decide ((j : Int) < ((dlL a.1.nodes a.2.1 j).length : Int))) (fun h6 =>
        have hj' : j < a.1.nodes.length := by have := of_decide_eq_true h6; omega
        have hg := dlL_get (w := a.2.1) hj'
        brN (c := decide ((0 : Int) ≤ (j : Int)) && decide ((j : Int) < ((dlL a.1.nodes a.2.1 j).length : Int))) (by simp; omega) (
        bq (!(dlL a.1.nodes a.2.1 j).getD j 0 == a.2.1) (fun h7 =>
          have h7 : (!(a.1.nodes.getD j 0 == a.2.1)) = true := by rw [← hg]; exact h7
          brN (c := decide ((0 : Int) ≤ ((dlF a.1.nodes a.2.1 j).length : Int)) && decide (((dlF a.1.nodes a.2.1 j).length : Int) < ((dlL a.1.nodes a.2.1 j).length : Int))) (by simp; omega) (
          (⟨(j + 1 : Nat), by
            show _ = [SV.own 0, iv (dlF a.1.nodes a.2.1 (j + 1)).length, iv ((j + 1 : Nat) : Int)]
            rw [dlF_y hj' h7, List.length_append, wr1 (by omega), wr1 (by omega)]; rfl, by
            show _ = [HB.arr .int 3 (dlL a.1.nodes a.2.1 (j + 1))]
            rw [← dlL_y hj' h7]; exact congrArg (fun l => [HB.arr .int 3 l]) (congrArg _ hg), rfl, hj', by show a.1.nodes.length - (j + 1) < a.1.nodes.length - j; omega⟩ : Rnd (dl_h a.1.nodes a.2.1) j [SV.own 0, SV.i IntKind.i64 (IntKind.wrap IntKind.i64 (((dlF a.1.nodes a.2.1 j).length : Int) + 1)), SV.i IntKind.i64 (IntKind.wrap IntKind.i64 ((j : Int) + 1))] [HB.arr .int 3 ((dlL a.1.nodes a.2.1 j).set (dlF a.1.nodes a.2.1 j).length ((dlL a.1.nodes a.2.1 j).getD j 0))] []))) (fun h7 =>
          have h7 : (!(a.1.nodes.getD j 0 == a.2.1)) = false := by rw [← hg]; exact h7
          (⟨(j + 1 : Nat), by
            show _ = [SV.own 0, iv (dlF a.1.nodes a.2.1 (j + 1)).length, iv ((j + 1 : Nat) : Int)]
            rw [dlF_n hj' h7, wr1 (by omega)], by
            show _ = [HB.arr .int 3 (dlL a.1.nodes a.2.1 (j + 1))]
            unfold dlL; rw [dlF_n hj' h7], rfl, hj', by show a.1.nodes.length - (j + 1) < a.1.nodes.length - j; omega⟩ : Rnd (dl_h a.1.nodes a.2.1) j [SV.own 0, SV.i IntKind.i64 ((dlF a.1.nodes a.2.1 j).length : Int), SV.i IntKind.i64 (IntKind.wrap IntKind.i64 ((j : Int) + 1))] [HB.arr .int 3 (dlL a.1.nodes a.2.1 j)] [])))) (fun h6 =>
        have hj' : j = a.1.nodes.length := by have := of_decide_eq_false h6; omega
        brN (c := decide ((0 : Int) ≤ ((dlF a.1.nodes a.2.1 j).length : Int)) && decide (((dlF a.1.nodes a.2.1 j).length : Int) ≤ ((dlL a.1.nodes a.2.1 j).length : Int))) (by simp; omega) (
        brN (c := Nat.ble (dlF a.1.nodes a.2.1 j).length (dlL a.1.nodes a.2.1 j).length) (Nat.ble_eq_true_of_le (by omega)) (
        brN (c := decide ((0 : Int) ≤ (0 : Int)) && (decide ((0 : Int) ≤ ((dlF a.1.nodes a.2.1 j).length : Int)) && decide (((dlF a.1.nodes a.2.1 j).length : Int) ≤ (((dlL a.1.nodes a.2.1 j).take (dlF a.1.nodes a.2.1 j).length ++ List.replicate ((dlL a.1.nodes a.2.1 j).length - (dlF a.1.nodes a.2.1 j).length) (0 : Int)).length : Int)))) (by simp; omega) (
        (by
          rw [hr]
          have e : dlF a.1.nodes a.2.1 j = a.1.nodes.filter fun x => !(x == a.2.1) := by unfold dlF; rw [hj', List.take_length]
          have e2 : (dlL a.1.nodes a.2.1 j).take (dlF a.1.nodes a.2.1 j).length = dlF a.1.nodes a.2.1 j := by unfold dlL; rw [List.take_left]
          rw [e2, List.take_left, e]; rfl : some (((dlL a.1.nodes a.2.1 j).take (dlF a.1.nodes a.2.1 j).length ++ List.replicate ((dlL a.1.nodes a.2.1 j).length - (dlF a.1.nodes a.2.1 j).length) (0 : Int)).take (dlF a.1.nodes a.2.1 j).length, ()) = some (oth_c.ret a))))))))
      (fun h4 => (⟨(i + 1 : Nat), by
          show [SV.i IntKind.i64 (IntKind.wrap IntKind.i64 ((i : Int) + 1))] = [iv ((i + 1 : Nat) : Int)]
          rw [wr1 (by omega)], rfl, rfl, ⟨hi, fun x hx => by
          rw [List.take_succ_eq_append_getElem hi, List.mem_append] at hx
          rcases hx with hx | hx
          · exact hI.2 x hx
          · rw [List.mem_singleton] at hx; subst hx
            simpa [List.getD_eq_getElem?_getD, List.getElem?_eq_getElem hi] using h4⟩, by show a.1.nodes.length - (i + 1) < a.1.nodes.length - i; omega⟩ : Rnd (ix_h a.1.nodes a.2.1) i [SV.i IntKind.i64 (IntKind.wrap IntKind.i64 ((i : Int) + 1))] [] []))))
  (fun h3 => (by
    rw [hr]
    have hi : i = a.1.nodes.length := by have := of_decide_eq_false h3; omega
    have : (a.1.nodes.filter fun x => !(x == a.2.1)) = a.1.nodes := List.filter_eq_self.2 fun x hx => by
      have := hI.2 x (by rw [hi, List.take_length]; exact hx)
      simpa using this
    rw [this]; rfl : some (a.1.nodes, ()) = some (oth_c.ret a)))))))
end Go.Proofs.YtpbcabanpppfoaaGreat
