/- Change: who heard a change, walked by reckoning. No condition. -/
import Derived.Test.YtpbcabanpppfoaaGreatCzM
set_option linter.all false
namespace Go.Proofs.YtpbcabanpppfoaaGreat
open Go Go.Gx Go.Vz
set_option maxRecDepth 100000
/-! ### 51 (*Council).heard -/
/-- Did one hear it? -/
def hrB (k : KD) (s : Said) (wo : Int) (x : Int) : Bool := bif x == wo then false else bif x == kSf k then (bif (sdO (kCh k) s.change.node).isSome then dq (α := Change) (sd (kCh k) s.change.node).change s.change else false)
  else (akG (kAk k) ⟨x, s.change.node⟩).view == s.change.view && (decide ((akG (kAk k) ⟨x, s.change.node⟩).dig = s.dig) && true)
def hrN (k : KD) (s : Said) (wo : Int) : Nat := (othS (kCr k) s.change.node).countP (hrB k s wo)
def hr_h (k : KD) (s : Said) (wo : Int) : LH D := ⟨Nat × Nat, [6, 20], fun i => [iv i.1, iv i.2], fun i => i.2 ≤ (othS (kCr k) s.change.node).length ∧ i.1 = ((othS (kCr k) s.change.node).take i.2).countP (hrB k s wo), fun i => (othS (kCr k) s.change.node).length - i.2, [], fun _ => [], [], fun _ => []⟩
def hrd_c : OCon D := { ash := [.nm 0, .dat (.st 8), .dat .int], es := KS, rsh := [.dat .int], pes := KS, pre := some (fun _ k => okK k), post := fun a k => (((hrN k a.1 a.2.1 : Nat), ()), k) }
theorem othS_le {k : KD} (h : okK k) (x : Int) : (othS (kCr k) x).length ≤ 1000000 := by
  unfold othS
  cases check (kCr k) != 0 with
  | true => simp
  | false => exact Nat.le_trans (List.length_filter_le _ _) h.nodes
theorem hr_y {k : KD} {s : Said} {wo : Int} {i : Nat × Nat} {os : List Int} (hi : i.2 < os.length) (hI : i.1 = (os.take i.2).countP (hrB k s wo)) (e : hrB k s wo (os.getD i.2 0) = true) : i.1 + 1 = (os.take (i.2 + 1)).countP (hrB k s wo) := by
  rw [List.take_succ_eq_append_getElem hi, List.countP_append, ← hI]
  rw [List.getD_eq_getElem?_getD, List.getElem?_eq_getElem hi, Option.getD_some] at e
  simp [e]
theorem hr_n {k : KD} {s : Said} {wo : Int} {i : Nat × Nat} {os : List Int} (hi : i.2 < os.length) (hI : i.1 = (os.take i.2).countP (hrB k s wo)) (e : hrB k s wo (os.getD i.2 0) = false) : i.1 = (os.take (i.2 + 1)).countP (hrB k s wo) := by
  rw [List.take_succ_eq_append_getElem hi, List.countP_append, ← hI]
  rw [List.getD_eq_getElem?_getD, List.getElem?_eq_getElem hi, Option.getD_some] at e
  simp [e]
theorem hrd_ok : hrd_c.looks EF Tryz.prog 51 := OCon.proveL (c := hrd_c) EF Zk (H := fun a k f r => match f, r with | 51, 2 => some (.inv (hr_h k a.1 a.2.1)) | _, _ => none) (call := fun a k => calls EF Zk Γk Δc (fun f r => match f, r with | 51, 2 => some (.inv (hr_h k a.1 a.2.1)) | _, _ => none) 3) (fun _ _ => calls_ok Zk Kk 3) fun (a : CL D hrd_c.ash) (k : KD) (hp : hrd_c.holds a k) =>
  have hp : okK k := hp
  have hl := othS_le hp a.1.change.node
  And.intro (Pre.mk hp.nodes : Pre ((kCr k).nodes.length ≤ 1000000)) (
  brL fun _ : (othS (kCr k) a.1.change.node).length ≤ maxL =>
  And.intro (⟨((0 : Nat), (0 : Nat)), rfl, rfl, rfl, Nat.zero_le _, rfl⟩ : Ent (hr_h k a.1 a.2.1) [SV.i IntKind.i64 (0 : Int), SV.i IntKind.i64 (0 : Int)] [] []) (
  fun (i : Nat × Nat) (hI : i.2 ≤ (othS (kCr k) a.1.change.node).length ∧ i.1 = ((othS (kCr k) a.1.change.node).take i.2).countP (hrB k a.1 a.2.1)) =>
  have h1 : i.1 ≤ 1000000 := by rw [hI.2]; exact Nat.le_trans List.countP_le_length (by rw [List.length_take]; omega)
  bq (decide ((i.2 : Int) < ((othS (kCr k) a.1.change.node).length : Int))) (fun h3 =>
    have hi : i.2 < (othS (kCr k) a.1.change.node).length := by have := of_decide_eq_true h3; omega
    have up (e : hrB k a.1 a.2.1 ((othS (kCr k) a.1.change.node).getD i.2 0) = true) : Rnd (hr_h k a.1 a.2.1) i [SV.i IntKind.i64 (IntKind.wrap .i64 ((i.1 : Int) + 1)), SV.i IntKind.i64 (IntKind.wrap .i64 ((i.2 : Int) + 1))] [] [] := ⟨(i.1 + 1, i.2 + 1), by
        show _ = [iv ((i.1 + 1 : Nat) : Int), iv ((i.2 + 1 : Nat) : Int)]
        rw [wr1 (by omega), wr1 (by omega)], rfl, rfl, ⟨hi, hr_y hi hI.2 e⟩, by show (othS (kCr k) a.1.change.node).length - (i.2 + 1) < (othS (kCr k) a.1.change.node).length - i.2; omega⟩
    have st (e : hrB k a.1 a.2.1 ((othS (kCr k) a.1.change.node).getD i.2 0) = false) : Rnd (hr_h k a.1 a.2.1) i [SV.i IntKind.i64 (i.1 : Int), SV.i IntKind.i64 (IntKind.wrap .i64 ((i.2 : Int) + 1))] [] [] := ⟨(i.1, i.2 + 1), by
        show _ = [iv (i.1 : Int), iv ((i.2 + 1 : Nat) : Int)]
        rw [wr1 (by omega)], rfl, rfl, ⟨hi, hr_n hi hI.2 e⟩, by show (othS (kCr k) a.1.change.node).length - (i.2 + 1) < (othS (kCr k) a.1.change.node).length - i.2; omega⟩
    brN (c := decide ((0 : Int) ≤ (i.2 : Int)) && decide ((i.2 : Int) < ((othS (kCr k) a.1.change.node).length : Int))) (by simp; omega) (
    bq ((othS (kCr k) a.1.change.node).getD i.2 (0 : Int) == a.2.1) (fun h4 => st (by unfold hrB; rw [h4]; rfl)) (fun h4 =>
    bq ((othS (kCr k) a.1.change.node).getD i.2 (0 : Int) == kSf k) (fun h5 =>
      bq (bif (sdO (kCh k) a.1.change.node).isSome then dq (α := Change) (sd (kCh k) a.1.change.node).change a.1.change else false) (fun h6 => up (by unfold hrB; rw [h4, h5, h6]; rfl)) (fun h6 => st (by unfold hrB; rw [h4, h5, h6]; rfl)))
    (fun h5 =>
      bq ((akG (kAk k) ⟨(othS (kCr k) a.1.change.node).getD i.2 (0 : Int), a.1.change.node⟩).view == a.1.change.view && (decide ((akG (kAk k) ⟨(othS (kCr k) a.1.change.node).getD i.2 (0 : Int), a.1.change.node⟩).dig = a.1.dig) && true)) (fun h6 => up (by unfold hrB; rw [h4, h5, h6]; rfl)) (fun h6 => st (by unfold hrB; rw [h4, h5, h6]; rfl))))))
  (fun h3 => (by
    have hi : i.2 = (othS (kCr k) a.1.change.node).length := by have := of_decide_eq_false h3; omega
    have e : i.1 = hrN k a.1 a.2.1 := by rw [hI.2, hi, List.take_length]; rfl
    rw [e]; rfl : some ((i.1 : Int), ()) = some (hrd_c.post a k).1))))
abbrev Δk : Nat → Option (OCon D) := addO (addO Δc 42 dgd_c) 41 hears_c
theorem Kk2 : Kept EF Tryz.prog Γk Δk := (Kk.o dgd_ok).o hears_ok
abbrev Λh : Nat → Option (OCon D) := addO (fun _ => none) 51 hrd_c
theorem Lh : Looks EF Tryz.prog Λh := Looks.nil.o hrd_ok
/-- Calls, the sorting ones among them. -/
noncomputable abbrev callK (H : Nat → Nat → Option (Hint D)) (n : Nat) : CallH D := sortH 53 94 (callsL EF Zk Λh Γk Δk H n)
theorem callK_ok (H : Nat → Nat → Option (Hint D)) (n : Nat) : CallAll Tryz.prog (callK H n) := sortH_ok sortK_ok (callsL_ok Lh Kk2 n)
end Go.Proofs.YtpbcabanpppfoaaGreat

namespace Go.Proofs.YtpbcabanpppfoaaGreat
open Go Go.Gx Go.Vz
set_option maxRecDepth 100000
def hasB (c : Crew) (x : Int) : Bool := (has_p (c, x, ())).1
def chg0 : Change := ⟨0, 0, 0, [], [], []⟩
def ans0 : Answer := ⟨0, [], 0, []⟩
abbrev dgS (c : Change) : Said := ⟨c, shaD (chBytes c)⟩
/-- The note that a change was heard. -/
def ackSaid (k : KD) (s : Said) : Note := ⟨8, kSf k, kGr k, kEp k, s.change.view, 0, s.dig, [], ans0, 0, s.change.node, chg0, [], [], 0, 0, [], [], []⟩
def tellK (k : KD) (c : Change) : Note := ⟨7, kSf k, kGr k, kEp k, 0, 0, Dig.zero, [], ans0, 0, 0, c, [], [], 0, 0, [], [], []⟩
theorem okK_ink {k : KD} (h : okK k) (b : List UInt8) : okK (kInk k b) := ⟨h.nodes, h.s1, h.s2, h.len, h.ch⟩
/-! ### 20 (*Council).Vouched -/
def vchB (k : KD) (c : Change) : Bool := bif (bif (sdO (kCh k) c.node).isSome then dq (α := Change) (sd (kCh k) c.node).change c else false) then true else decide (someN (kCr k) ≤ (hrN k (dgS c) 0 : Int))
def vchP (k : KD) (c : Change) : (Bool × Unit) × KD := bif !hasB (kCr k) c.node then ((false, ()), k) else ((vchB k c, ()), kInk k (chBytes c))
def vch_c : OCon D := { ash := [.nm 0, .dat (.st 3)], es := KS, rsh := [.dat .bool], pes := KS, pre := some (fun a k => isW a.1 ∧ okK k), post := fun a k => vchP k a.1 }
theorem vch_ok : vch_c.ok EF Tryz.prog 20 := OCon.proveH (c := vch_c) EF Zk (H := fun _ _ _ _ => none) (call := fun _ _ => callK (fun _ _ => none) 3) (fun _ _ => callK_ok _ 3) fun (a : CL D vch_c.ash) (k : KD) (hp : vch_c.holds a k) =>
  have hp : isW a.1 ∧ okK k := hp
  bq (!hasB (kCr k) a.1.node) (fun h1 => (by simp only [vch_c, vchP, h1, cond_true] : some ((false, ()), k) = some (vch_c.post a k))) (fun h1 =>
  And.intro (Pre.mk hp.1 : Pre (isW a.1)) (
  have g2 := okK_ink hp.2 (chBytes a.1)
  have e (b : Bool) (hb : vchB k a.1 = b) : some ((b, ()), kInk k (chBytes a.1)) = some (vch_c.post a k) := by simp only [vch_c, vchP, h1, cond_false, hb]
  bq ((sdO (kCh k) a.1.node).isSome) (fun h2 =>
    bq (dq (α := Change) (sd (kCh k) a.1.node).change a.1) (fun h3 =>
      have t : some ((true, ()), kInk k (chBytes a.1)) = some (vch_c.post a k) := e true (by unfold vchB; rw [h2, h3]; rfl)
      And.intro t (And.intro t (both t)))
    (fun h3 => And.intro (Pre.mk g2 : Pre (okK (kInk k (chBytes a.1)))) (
      (e _ (by unfold vchB; rw [h2, h3]; rfl) : some ((decide (someN (kCr k) ≤ (hrN k (dgS a.1) 0 : Int)), ()), kInk k (chBytes a.1)) = some (vch_c.post a k)))))
  (fun h2 => both (And.intro (Pre.mk g2 : Pre (okK (kInk k (chBytes a.1)))) (
      (e _ (by unfold vchB; rw [h2]; rfl) : some ((decide (someN (kCr k) ≤ (hrN k (dgS a.1) 0 : Int)), ()), kInk k (chBytes a.1)) = some (vch_c.post a k)))))))
/-! ### 26 (*Council).Leave -/
def lvP (k : KD) (c : Change) : (List Note × Int × Unit) × KD := bif c.node != kSf k then (([], 2, ()), kInk k (chBytes c)) else bif decide (c.view ≤ (sd (kCh k) (kSf k)).change.view) then (([], 190, ()), kInk k (chBytes c))
  else (([tellK k c], 0, ()), kChs (kInk k (chBytes c)) (mputT (E := D) .int (.st 8) (kCh k) (kSf k) (dgS c)))
def lv_c : OCon D := { ash := [.nm 0, .dat (.st 3)], es := KS, rsh := [.dat (.sl (.st 7)), .dat .int], pes := KS, pre := some (fun a _ => isW a.1), post := fun a k => lvP k a.1 }
theorem lv_ok : lv_c.ok EF Tryz.prog 26 := OCon.proveH (c := lv_c) EF Zk (H := fun _ _ _ _ => none) (call := fun _ _ => callK (fun _ _ => none) 3) (fun _ _ => callK_ok _ 3) fun (a : CL D lv_c.ash) (k : KD) (hp : lv_c.holds a k) =>
  have hp : isW a.1 := hp
  have hc := isW_okC hp
  And.intro (Pre.mk hp : Pre (isW a.1)) (
  bq (a.1.node != kSf k) (fun h1 => (by simp only [lv_c, lvP, h1, cond_true] : some (([], (2 : Int), ()), kInk k (chBytes a.1)) = some (lv_c.post a k))) (fun h1 =>
  bq (decide (a.1.view ≤ (sd (kCh k) (kSf k)).change.view)) (fun h2 => (by simp only [lv_c, lvP, h1, h2, cond_true, cond_false] : some (([], (190 : Int), ()), kInk k (chBytes a.1)) = some (lv_c.post a k))) (fun h2 =>
  And.intro (Pre.mk hc.1 : Pre (a.1.marks.length ≤ 1000000)) (
  And.intro (Pre.mk hc.2.1 : Pre (a.1.p.length ≤ 1000000)) (
  And.intro (Pre.mk hc.2.2 : Pre (a.1.q.length ≤ 1000000)) (
  (by simp only [lv_c, lvP, h1, h2, cond_false] : some (([tellK k a.1], (0 : Int), ()), kChs (kInk k (chBytes a.1)) (mputT (E := D) .int (.st 8) (kCh k) (kSf k) (dgS a.1))) = some (lv_c.post a k))))))))
/-! ### 12 (*Council).Take -/
def takeC (k : KD) (n : Note) : (List Note × Int × Unit) × KD :=
  bif decide (n.change.view < (sd (kCh k) n.sender).change.view) then (([], 190, ()), kInk k (chBytes n.change))
  else bif (bif (sd (kCh k) n.sender).change.view == n.change.view then !dq (α := Change) (sd (kCh k) n.sender).change n.change else false) then (([], 151, ()), kInk k (chBytes n.change))
  else bif (sd (kCh k) n.sender).change.view == n.change.view then (([], 0, ()), kInk k (chBytes n.change))
  else (([ackSaid k (dgS n.change)], 0, ()), kChs (kInk k (chBytes n.change)) (mputT (E := D) .int (.st 8) (kCh k) n.sender (dgS n.change)))
def takeP (k : KD) (n : Note) : (List Note × Int × Unit) × KD :=
  bif (bif !(n.kind == 8) then n.kind != 7 else false) then (([], 2, ()), k)
  else bif n.group != kGr k then (([], 171, ()), k)
  else bif n.epoch != kEp k then (([], 171, ()), k)
  else bif !hasB (kCr k) n.sender then (([], 110, ()), k)
  else bif n.sender == kSf k then (([], 110, ()), k)
  else bif n.kind == 8 then (bif !hasB (kCr k) n.node then (([], 110, ()), k) else (([], (hearsP k n).1.1, ()), (hearsP k n).2))
  else takeC k n
def tk_c : OCon D := { ash := [.nm 0, .dat (.st 7)], es := KS, rsh := [.dat (.sl (.st 7)), .dat .int], pes := KS, pre := some (fun a _ => isNt a.1), post := fun a k => takeP k a.1 }
theorem isNt_W {n : Note} (h : isNt n) (hk : (n.kind == 8) = false) : isW n.change := by
  rcases h with ⟨i, rfl, h1, h2⟩ | ⟨i, rfl, _⟩
  · exact ⟨((i.1 + 1 : Nat), (i.2.1 + 1 : Nat), i.2.2), rfl, by show (1 : Int) ≤ ((i.1 + 1 : Nat) : Int); omega, by show ((i.1 + 1 : Nat) : Int) ≤ 28; omega, by show (1 : Int) ≤ ((i.2.1 + 1 : Nat) : Int); omega, by show ((i.2.1 + 1 : Nat) : Int) ≤ 255; omega⟩
  · cases hk
theorem tk_ok : tk_c.ok EF Tryz.prog 12 := OCon.proveH (c := tk_c) EF Zk (H := fun _ _ _ _ => none) (call := fun _ _ => callK (fun _ _ => none) 3) (fun _ _ => callK_ok _ 3) fun (a : CL D tk_c.ash) (k : KD) (hp : tk_c.holds a k) =>
  have hp : isNt a.1 := hp
  bq (bif !(a.1.kind == 8) then a.1.kind != 7 else false) (fun h1 => (by simp only [tk_c, takeP, h1, cond_true] : some (([], (2 : Int), ()), k) = some (tk_c.post a k))) (fun h1 =>
  And.intro (Pre.mk hp : Pre (isNt a.1)) (
  bq (a.1.group != kGr k) (fun h2 =>
    have t : some (([], (171 : Int), ()), k) = some (tk_c.post a k) := by simp only [tk_c, takeP, h1, h2, cond_true, cond_false]
    And.intro t (And.intro t (both t))) (fun h2 =>
  bq (a.1.epoch != kEp k) (fun h3 => (by simp only [tk_c, takeP, h1, h2, h3, cond_true, cond_false] : some (([], (171 : Int), ()), k) = some (tk_c.post a k))) (fun h3 =>
  bq (!hasB (kCr k) a.1.sender) (fun h4 =>
    have t : some (([], (110 : Int), ()), k) = some (tk_c.post a k) := by simp only [tk_c, takeP, h1, h2, h3, h4, cond_true, cond_false]
    And.intro t (And.intro t (both t))) (fun h4 =>
  bq (a.1.sender == kSf k) (fun h5 => (by simp only [tk_c, takeP, h1, h2, h3, h4, h5, cond_true, cond_false] : some (([], (110 : Int), ()), k) = some (tk_c.post a k))) (fun h5 =>
  bq (a.1.kind == 8) (fun h6 =>
    bq (!hasB (kCr k) a.1.node) (fun h7 => (by simp only [tk_c, takeP, h1]; simp only [h2, h3, h4, h5, h6, h7, cond_true, cond_false] : some (([], (110 : Int), ()), k) = some (tk_c.post a k))) (fun h7 =>
      (by simp only [tk_c, takeP, h1]; simp only [h2, h3, h4, h5, h6, h7, cond_true, cond_false] : some (([], (hearsP k a.1).1.1, ()), (hearsP k a.1).2) = some (tk_c.post a k))))
  (fun h6 =>
    have e : tk_c.post a k = takeC k a.1 := by simp only [tk_c, takeP, h1]; simp only [h2, h3, h4, h5, h6, cond_false]
    have X := And.intro (Pre.mk (isNt_W hp h6) : Pre (isW a.1.change)) (
      bq (decide (a.1.change.view < (sd (kCh k) a.1.sender).change.view)) (fun h7 => (by rw [e, takeC, h7]; rfl : some (([], (190 : Int), ()), kInk k (chBytes a.1.change)) = some (tk_c.post a k))) (fun h7 =>
      bq (bif (sd (kCh k) a.1.sender).change.view == a.1.change.view then !dq (α := Change) (sd (kCh k) a.1.sender).change a.1.change else false) (fun h8 => (by rw [e, takeC, h7, h8]; rfl : some (([], (151 : Int), ()), kInk k (chBytes a.1.change)) = some (tk_c.post a k))) (fun h8 =>
      bq ((sd (kCh k) a.1.sender).change.view == a.1.change.view) (fun h9 => (by rw [e, takeC, h7, h8, h9]; rfl : some (([], (0 : Int), ()), kInk k (chBytes a.1.change)) = some (tk_c.post a k))) (fun h9 =>
      (by rw [e, takeC, h7, h8, h9]; rfl : some (([ackSaid k (dgS a.1.change)], (0 : Int), ()), kChs (kInk k (chBytes a.1.change)) (mputT (E := D) .int (.st 8) (kCh k) a.1.sender (dgS a.1.change))) = some (tk_c.post a k))))))
    And.intro (And.intro (both X) X) X)))))))
end Go.Proofs.YtpbcabanpppfoaaGreat
