/- Change: what a council of the statements answers when it is looked at, in plain words. No condition. -/
import Derived.Test.YtpbcabanpppfoaaGreatCzLw
set_option linter.all false
namespace Go.Proofs.YtpbcabanpppfoaaGreat
open Go Go.Gx Go.Vz
set_option maxRecDepth 100000
/-- A council that holds just this. -/
def KZ (f me : Int) (ch : List (Int × Said)) (ak : List (Pair × Ack)) : KD := ((crewS f, me, 1, 1, ()), (0, ()), ch, ak, [], [], ())
section
variable {f me : Int} {ch : List (Int × Said)} {ak : List (Pair × Ack)} {k : KD}
theorem Fct.open (h : Fct f me ch ak k) : ∃ c s m, k = ((crewS f, me, 1, 1, ()), c, ch, ak, s, m, ()) := by
  obtain ⟨a, c, x, y, s, m, ⟨⟩⟩ := k
  obtain ⟨h1, h2, h3⟩ := h
  have h1 : a = _ := h1
  have h2 : x = ch := h2
  have h3 : y = ak := h3
  subst h1 h2 h3
  exact ⟨c, s, m, rfl⟩
theorem Fct.hr (h : Fct f me ch ak k) (s : Said) (wo : Int) : hrN k s wo = hrN (KZ f me ch ak) s wo := by
  obtain ⟨c, x, m, rfl⟩ := h.open; rfl
theorem Fct.rdy (h : Fct f me ch ak k) (v : Int) : rdyL k v (rdyK k) = rdyL (KZ f me ch ak) v (rdyK (KZ f me ch ak)) := by
  obtain ⟨c, x, m, rfl⟩ := h.open; rfl
theorem Fct.jn (h : Fct f me ch ak k) (v : Int) : jnP k v = jnP (KZ f me ch ak) v := by
  obtain ⟨c, x, m, rfl⟩ := h.open; rfl
theorem Fct.bh (h : Fct f me ch ak k) (v : Int) : bhC k v (keysK k) = bhC (KZ f me ch ak) v (keysK (KZ f me ch ak)) := by
  obtain ⟨c, x, m, rfl⟩ := h.open; rfl
theorem Fct.vch (h : Fct f me ch ak k) (c : Change) : vchB k c = vchB (KZ f me ch ak) c := by
  obtain ⟨c, x, m, rfl⟩ := h.open; rfl
/-- One more was heard. -/
theorem hears_new (h : Fct f me ch ak k) {x v n : Int} {d : Dig} (hv : (akG ak ⟨x, n⟩).view < v) : (hearsP k (ackNt x v n d)).1.1 = 0 ∧ Fct f me ch (mputT (E := D) (.st 10) (.st 9) ak ⟨x, n⟩ ⟨v, d⟩) (hearsP k (ackNt x v n d)).2 := by
  have e : hearsP k (ackNt x v n d) = ((0, ()), kAks k (mputT (E := D) (.st 10) (.st 9) (kAk k) ⟨x, n⟩ ⟨v, d⟩)) := by
    unfold hearsP
    rw [h.ak]
    show (bif decide (v < (akG ak ⟨x, n⟩).view) then _ else bif (bif (akG ak ⟨x, n⟩).view == v then _ else false) then _ else _) = _
    rw [show decide (v < (akG ak ⟨x, n⟩).view) = false by simp; omega, show ((akG ak ⟨x, n⟩).view == v) = false by simp; omega]
    rfl
  rw [e]
  exact ⟨rfl, ⟨h.hd, h.ch, by show mputT (E := D) (.st 10) (.st 9) (kAk k) _ _ = _; rw [h.ak]⟩⟩
theorem Fct.okK (h : Fct f me ch ak k) (hf : f = 1 ∨ f = 2) (hl : ch.length ≤ 1000) (hc : ∀ p ∈ ch, okC p.2.change ∧ -1000000 ≤ p.1 ∧ p.1 ≤ 1000000) : okK k := by
  obtain ⟨c, x, m, rfl⟩ := h.open
  refine ⟨crewS_len f, ?_, ?_, hl, hc⟩
  · show 1 ≤ someN (crewS f)
    rcases hf with rfl | rfl <;> decide
  · show someN (crewS f) ≤ 1000000
    rcases hf with rfl | rfl <;> decide
end
end Go.Proofs.YtpbcabanpppfoaaGreat

namespace Go.Proofs.YtpbcabanpppfoaaGreat
open Go Go.Gx Go.Vz
set_option maxRecDepth 100000
theorem nmd {α : Type} {a : α} {K : α → Prop} (h : ∀ q, a = q → K q) : Nmd a K := ⟨h⟩
abbrev sOne : Change := says 1 2 1
abbrev sThree : Change := says 3 2 3
abbrev sFour : Change := says 4 2 4
theorem hrB_y {k : KD} {s : Said} {wo x : Int} (h1 : x ≠ wo) (h2 : x ≠ kSf k) (h : akG (kAk k) ⟨x, s.change.node⟩ = ⟨s.change.view, s.dig⟩) : hrB k s wo x = true := by
  unfold hrB
  rw [show (x == wo) = false by simpa using h1, show (x == kSf k) = false by simpa using h2, h]
  simp
section
variable (d e g : Dig)
theorem aw1 : rdyL (KZ 1 2 [(1, ⟨sOne, d⟩)] []) 2 (rdyK (KZ 1 2 [(1, ⟨sOne, d⟩)] [])) = [] := rfl
theorem aw2 : hrN (KZ 1 2 [(1, ⟨sOne, d⟩)] [(⟨3, 1⟩, ⟨2, d⟩)]) ⟨sOne, d⟩ 2 = 1 := by
  have h3 : hrB (KZ 1 2 [(1, ⟨sOne, d⟩)] [(⟨3, 1⟩, ⟨2, d⟩)]) ⟨sOne, d⟩ 2 3 = true := hrB_y (show (3 : Int) ≠ 2 by decide) (show (3 : Int) ≠ 2 by decide) rfl
  have h2 : hrB (KZ 1 2 [(1, ⟨sOne, d⟩)] [(⟨3, 1⟩, ⟨2, d⟩)]) ⟨sOne, d⟩ 2 2 = false := rfl
  have h4 : hrB (KZ 1 2 [(1, ⟨sOne, d⟩)] [(⟨3, 1⟩, ⟨2, d⟩)]) ⟨sOne, d⟩ 2 4 = false := rfl
  show [2, 3, 4].countP _ = 1
  simp [List.countP_cons, h2, h3, h4]
theorem aw3 : rdyL (KZ 1 2 [(1, ⟨sOne, d⟩)] [(⟨3, 1⟩, ⟨2, d⟩)]) 2 (rdyK (KZ 1 2 [(1, ⟨sOne, d⟩)] [(⟨3, 1⟩, ⟨2, d⟩)])) = [sOne] := by
  have h : rdyB (KZ 1 2 [(1, ⟨sOne, d⟩)] [(⟨3, 1⟩, ⟨2, d⟩)]) 2 1 = true := by
    show (bif (2 : Int) == 2 then (bif (1 : Int) == 2 then true else decide (rdyN (KZ 1 2 [(1, ⟨sOne, d⟩)] [(⟨3, 1⟩, ⟨2, d⟩)]) ≤ (hrN (KZ 1 2 [(1, ⟨sOne, d⟩)] [(⟨3, 1⟩, ⟨2, d⟩)]) ⟨sOne, d⟩ 2 : Int))) else false) = true
    rw [aw2]; rfl
  show (([(1 : Int)].filter (rdyB (KZ 1 2 [(1, ⟨sOne, d⟩)] [(⟨3, 1⟩, ⟨2, d⟩)]) 2)).map fun x => (sd [(1, ⟨sOne, d⟩)] x).change) = [sOne]
  rw [List.filter_cons, if_pos h]
  rfl
theorem aw4 (ak : List (Pair × Ack)) : jnP (KZ 1 2 [(1, ⟨sOne, d⟩)] ak) 0 = (0, false, ()) := rfl
theorem aw5 (ak : List (Pair × Ack)) : jnP (KZ 1 2 [(1, ⟨sOne, d⟩), (3, ⟨sThree, e⟩)] ak) 0 = (2, true, ()) := rfl
theorem aw6 (ak : List (Pair × Ack)) : jnP (KZ 1 2 [(1, ⟨sOne, d⟩), (3, ⟨sThree, e⟩)] ak) 2 = (0, false, ()) := rfl
theorem aw7 (ak : List (Pair × Ack)) : bhC (KZ 1 2 [(1, ⟨sOne, d⟩), (3, ⟨sThree, e⟩)] ak) 2 (keysK (KZ 1 2 [(1, ⟨sOne, d⟩), (3, ⟨sThree, e⟩)] ak)) = 2 := rfl
theorem aw8 (ak : List (Pair × Ack)) : bhC (KZ 1 2 [(1, ⟨sOne, d⟩), (3, ⟨sThree, e⟩)] ak) 3 (keysK (KZ 1 2 [(1, ⟨sOne, d⟩), (3, ⟨sThree, e⟩)] ak)) = 0 := rfl
abbrev chT : List (Int × Said) := [(1, ⟨sOne, d⟩), (3, ⟨sThree, e⟩)]
theorem aw9 : vchB (KZ 1 2 (chT d e) [(⟨3, 1⟩, ⟨2, d⟩)]) sFour = false := by
  have h1 : hrB (KZ 1 2 (chT d e) [(⟨3, 1⟩, ⟨2, d⟩)]) (dgS sFour) 0 1 = false := rfl
  have h2 : hrB (KZ 1 2 (chT d e) [(⟨3, 1⟩, ⟨2, d⟩)]) (dgS sFour) 0 2 = false := rfl
  have h3 : hrB (KZ 1 2 (chT d e) [(⟨3, 1⟩, ⟨2, d⟩)]) (dgS sFour) 0 3 = false := rfl
  have h : hrN (KZ 1 2 (chT d e) [(⟨3, 1⟩, ⟨2, d⟩)]) (dgS sFour) 0 = 0 := by
    show [1, 2, 3].countP _ = 0
    simp [List.countP_cons, h1, h2, h3]
  show (bif false then true else decide ((2 : Int) ≤ (hrN (KZ 1 2 (chT d e) [(⟨3, 1⟩, ⟨2, d⟩)]) (dgS sFour) 0 : Int))) = false
  rw [h]; rfl
abbrev akA : List (Pair × Ack) := [(⟨3, 1⟩, ⟨2, d⟩), (⟨1, 4⟩, ⟨2, (dgS sFour).dig⟩)]
theorem aw10 : vchB (KZ 1 2 (chT d e) (akA d)) sFour = false := by
  have h1 : hrB (KZ 1 2 (chT d e) (akA d)) (dgS sFour) 0 1 = true := hrB_y (show (1 : Int) ≠ 0 by decide) (show (1 : Int) ≠ 2 by decide) rfl
  have h2 : hrB (KZ 1 2 (chT d e) (akA d)) (dgS sFour) 0 2 = false := rfl
  have h3 : hrB (KZ 1 2 (chT d e) (akA d)) (dgS sFour) 0 3 = false := rfl
  have h : hrN (KZ 1 2 (chT d e) (akA d)) (dgS sFour) 0 = 1 := by
    show [1, 2, 3].countP _ = 1
    simp [List.countP_cons, h1, h2, h3]
  show (bif false then true else decide ((2 : Int) ≤ (hrN (KZ 1 2 (chT d e) (akA d)) (dgS sFour) 0 : Int))) = false
  rw [h]; rfl
abbrev akB : List (Pair × Ack) := [(⟨3, 1⟩, ⟨2, d⟩), (⟨1, 4⟩, ⟨2, (dgS sFour).dig⟩), (⟨3, 4⟩, ⟨2, (dgS sFour).dig⟩)]
theorem aw11 : vchB (KZ 1 2 (chT d e) (akB d)) sFour = true := by
  have h1 : hrB (KZ 1 2 (chT d e) (akB d)) (dgS sFour) 0 1 = true := hrB_y (show (1 : Int) ≠ 0 by decide) (show (1 : Int) ≠ 2 by decide) rfl
  have h2 : hrB (KZ 1 2 (chT d e) (akB d)) (dgS sFour) 0 2 = false := rfl
  have h3 : hrB (KZ 1 2 (chT d e) (akB d)) (dgS sFour) 0 3 = true := hrB_y (show (3 : Int) ≠ 0 by decide) (show (3 : Int) ≠ 2 by decide) rfl
  have h : hrN (KZ 1 2 (chT d e) (akB d)) (dgS sFour) 0 = 2 := by
    show [1, 2, 3].countP _ = 2
    simp [List.countP_cons, h1, h2, h3]
  show (bif false then true else decide ((2 : Int) ≤ (hrN (KZ 1 2 (chT d e) (akB d)) (dgS sFour) 0 : Int))) = true
  rw [h]; rfl
end
end Go.Proofs.YtpbcabanpppfoaaGreat

namespace Go.Proofs.YtpbcabanpppfoaaGreat
open Go Go.Gx Go.Vz
set_option maxRecDepth 100000
/-! ### maps -/
section
variable {κ β : Type} [DecidableEq κ]
theorem mem_mget {l : List (κ × β)} (hn : (l.map (·.1)).Nodup) {p : κ × β} (hp : p ∈ l) : mget l p.1 = some p.2 := by
  induction l with
  | nil => cases hp
  | cons q r ih =>
    rw [List.map_cons, List.nodup_cons] at hn
    unfold mget
    rcases List.mem_cons.1 hp with e | h
    · subst e; rw [if_pos rfl]
    · have : q.1 ≠ p.1 := fun e => hn.1 (by rw [e]; exact List.mem_map_of_mem h)
      rw [if_neg this]; exact ih hn.2 h
theorem mget_mput1 {l : List (κ × β)} {x y : κ} {v : β} : mget (mput l x v) y = if x = y then some v else mget l y := by
  induction l with
  | nil => simp [mput, mget]
  | cons q r ih =>
    unfold mput
    by_cases e : q.1 = x
    · rw [if_pos e]
      unfold mget
      by_cases e2 : x = y
      · simp [e2]
      · have : q.1 ≠ y := by rw [e]; exact e2
        simp [e2, this]
    · rw [if_neg e]
      unfold mget
      rw [ih]
      by_cases e2 : q.1 = y
      · have : x ≠ y := by rw [← e2]; exact fun h => e h.symm
        simp [e2, this]
      · simp [e2]
theorem mget_key {l : List (κ × β)} {x : κ} (h : x ∈ l.map (·.1)) : ∃ y, mget l x = some y := by
  induction l with
  | nil => cases h
  | cons q r ih =>
    unfold mget
    by_cases e : q.1 = x
    · rw [if_pos e]; exact ⟨_, rfl⟩
    · rw [if_neg e]
      refine ih ?_
      rw [List.map_cons, List.mem_cons] at h
      rcases h with h | h
      · exact absurd h.symm e
      · exact h
theorem mput_len {l : List (κ × β)} {x : κ} {v : β} : (mput l x v).length ≤ l.length + 1 := by
  induction l with
  | nil => simp [mput]
  | cons q r ih =>
    unfold mput
    by_cases e : q.1 = x
    · rw [if_pos e]; simp
    · rw [if_neg e]; simp only [List.length_cons]; omega
end
abbrev chPut (l : List (Int × Said)) (n : Int) (s : Said) : List (Int × Said) := mputT (E := D) .int (.st 8) l n s
theorem sdO_put {l : List (Int × Said)} {n x : Int} {s : Said} : sdO (chPut l n s) x = if n = x then some s else sdO l x := by
  have := @mget_mput1 Int Said (Ty.dec D .int) l n x s
  refine Eq.trans this ?_
  by_cases e : n = x
  · rw [if_pos e, if_pos e]
  · rw [if_neg e, if_neg e]; rfl
theorem chPut_nodup {l : List (Int × Said)} {n : Int} {s : Said} (h : (l.map fun p : Int × Said => p.1).Nodup) : ((chPut l n s).map fun p : Int × Said => p.1).Nodup :=
  @mput_nodup Int (Ty.dec D .int) Said l n s h
theorem chPut_new {l : List (Int × Said)} {n : Int} {s : Said} (h : n ∉ l.map fun p : Int × Said => p.1) : chPut l n s = l ++ [(n, s)] :=
  @mput_none Int (Ty.dec D .int) Said l n s h
theorem sdO_of_mem {l : List (Int × Said)} (hn : (l.map fun p : Int × Said => p.1).Nodup) {p : Int × Said} (hp : p ∈ l) : sdO l p.1 = some p.2 :=
  @mem_mget Int Said (Ty.dec D .int) l hn p hp
theorem sdO_none {l : List (Int × Said)} {x : Int} (h : x ∉ l.map fun p : Int × Said => p.1) : sdO l x = none :=
  @mget_none Int (Ty.dec D .int) Said l x h
abbrev akO (l : List (Pair × Ack)) (p : Pair) : Option Ack := mgetT (E := D) (.st 10) (.st 9) l p
abbrev akPut (l : List (Pair × Ack)) (p : Pair) (a : Ack) : List (Pair × Ack) := mputT (E := D) (.st 10) (.st 9) l p a
theorem akO_put {l : List (Pair × Ack)} {p q : Pair} {a : Ack} (h : p ≠ q) : akO (akPut l p a) q = akO l q := by
  have := @mget_mput1 Pair Ack (Ty.dec D (.st 10)) l p q a
  refine Eq.trans this ?_
  rw [if_neg h]; rfl
theorem akO_put_eq {l : List (Pair × Ack)} {p : Pair} {a : Ack} : akO (akPut l p a) p = some a := by
  have := @mget_mput1 Pair Ack (Ty.dec D (.st 10)) l p p a
  refine Eq.trans this ?_
  rw [if_pos rfl]
/-! ### the k-th of a sorted row -/
/-! ### numbers brought into a range -/
def brg (x n : Int) : Int := (bring_p (x, n, ())).1
theorem brg_ok {x n : Int} (h1 : 0 < n) (h2 : n ≤ 1000000) : 0 ≤ brg x n ∧ brg x n < n := by
  unfold brg bring_p
  have e : decide (n ≤ (0 : Int)) = false := by simp; omega
  have hlt : Int.tmod x n < n := Int.tmod_lt_of_pos x h1
  have hgt : -n < Int.tmod x n := Int.lt_tmod_of_pos x h1
  simp only [e, cond_false]
  cases hd : decide (Int.tmod x n < 0) with
  | true =>
    have h3 : Int.tmod x n < 0 := of_decide_eq_true hd
    simp only [cond_true]
    rw [IntWalk.i64_in _ (by omega)]
    omega
  | false => have := of_decide_eq_false hd; simp only [cond_false]; omega
/-- A number, as a byte. -/
abbrev byt (n : Int) : UInt8 := UInt8.ofNat (IntKind.wrap .u8 n).toNat
theorem saysW {n v : Int} {b : UInt8} (h1 : 1 ≤ n) (h2 : n ≤ 28) (h3 : 1 ≤ v) (h4 : v ≤ 255) : isW (says n v b) := ⟨(n, v, b), rfl, h1, h2, h3, h4⟩
theorem pos_nat {n : Int} (h : 1 ≤ n) : ∃ m : Nat, n = ((m + 1 : Nat) : Int) := ⟨n.toNat - 1, by omega⟩
theorem tell_nt {n v : Int} {b : UInt8} (h1 : 1 ≤ n) (h2 : n ≤ 28) (h3 : 1 ≤ v) (h4 : v ≤ 255) : isNt (tells (says n v b)) := by
  obtain ⟨i, rfl⟩ := pos_nat h1
  obtain ⟨j, rfl⟩ := pos_nat h3
  exact .inl ⟨(i, j, b), rfl, by show i + 1 ≤ 28; omega, by show j + 1 ≤ 255; omega⟩
end Go.Proofs.YtpbcabanpppfoaaGreat

namespace Go.Proofs.YtpbcabanpppfoaaGreat
open Go Go.Gx Go.Vz
set_option maxRecDepth 100000
abbrev kP (p : EL D PS) : KD := (p.2.2.2.1, p.1, p.2.2.2.2.1, p.2.2.2.2.2.1, p.2.1, p.2.2.1, ())
section
variable {f me : Int} {ch : List (Int × Said)} {ak : List (Pair × Ack)} {k : KD}
theorem tks_tell (h : Fct f me ch ak k) (hf : f = 1 ∨ f = 2) {n v : Int} {b : UInt8} (h1 : 1 ≤ n) (h2 : n ≤ 3 * f + 1) (hn : n ≠ me) (hv : (sd ch n).change.view < v) :
    (tksP k (tells (says n v b)) [ackW me (says n v b)]).1.1 = true ∧ Fct f me (mputT (E := D) .int (.st 8) ch n (dgS (says n v b))) ak (tksP k (tells (says n v b)) [ackW me (says n v b)]).2 := by
  unfold tksP
  rw [take_tell h hf h1 h2 hn]
  obtain ⟨g1, g2⟩ := takeC_new h (b := b) hv
  refine ⟨?_, g2⟩
  show (bif (takeC k (tells (says n v b))).1.2.1 == 0 then eqB (takeC k (tells (says n v b))).1.1 _ else false) = true
  rw [g1]
  show eqB [ackW me (says n v b)] [ackW me (says n v b)] = true
  unfold eqB; simp
theorem tks_ack (h : Fct f me ch ak k) (hf : f = 1 ∨ f = 2) {x : Int} {c : Change} (h1 : 1 ≤ x) (h2 : x ≤ 3 * f + 1) (hn : x ≠ me) (h3 : 1 ≤ c.node) (h4 : c.node ≤ 3 * f + 1) (hv : (akG ak ⟨x, c.node⟩).view < c.view) :
    (tksP k (ackW x c) []).1.1 = true ∧ Fct f me ch (mputT (E := D) (.st 10) (.st 9) ak ⟨x, c.node⟩ ⟨c.view, (dgS c).dig⟩) (tksP k (ackW x c) []).2 := by
  unfold tksP
  rw [take_ack h hf h1 h2 hn h3 h4]
  obtain ⟨g1, g2⟩ := hears_new h (d := (dgS c).dig) hv
  refine ⟨?_, g2⟩
  show (bif (hearsP k (ackNt x c.view c.node (dgS c).dig)).1.1 == 0 then eqB ([] : List Note) [] else false) = true
  rw [g1]; rfl
theorem vch_four (h : Fct f me ch ak k) (hf : f = 1 ∨ f = 2) {c : Change} (h3 : 1 ≤ c.node) (h4 : c.node ≤ 3 * f + 1) : (vchP k c).1.1 = vchB (KZ f me ch ak) c ∧ Fct f me ch ak (vchP k c).2 := by
  have e : vchP k c = ((vchB k c, ()), kInk k (chBytes c)) := by
    unfold vchP
    rw [h.cr, hasB_ok hf h3 h4]; rfl
  rw [e]
  exact ⟨h.vch c, h.ink _⟩
theorem ackNt_nt (x n v : Nat) (d : Dig) (h1 : x + 1 ≤ 28) (h2 : v + 1 ≤ 255) (h3 : n + 1 ≤ 28) (h4 : x ≠ n) : isNt (ackNt ((x + 1 : Nat) : Int) ((v + 1 : Nat) : Int) ((n + 1 : Nat) : Int) d) :=
  .inr ⟨(x, v, n, fun j => d.l.getD j 0), congrArg (ackNt ((x + 1 : Nat) : Int) ((v + 1 : Nat) : Int) ((n + 1 : Nat) : Int)) (mkD_eq d), h1, h2, h3, h4⟩
end
theorem W1 : isW sOne := ⟨(1, 2, 1), rfl, by decide, by decide, by decide, by decide⟩
theorem W3 : isW sThree := ⟨(3, 2, 3), rfl, by decide, by decide, by decide, by decide⟩
theorem W4 : isW sFour := ⟨(4, 2, 4), rfl, by decide, by decide, by decide, by decide⟩
theorem okCh {d e : Dig} : ∀ p ∈ chT d e, okC p.2.change ∧ -1000000 ≤ p.1 ∧ p.1 ≤ 1000000 := by
  intro p hp
  simp only [chT, List.mem_cons, List.not_mem_nil, or_false] at hp
  rcases hp with rfl | rfl
  · exact ⟨isW_okC W1, show (-1000000 : Int) ≤ 1 by decide, show (1 : Int) ≤ 1000000 by decide⟩
  · exact ⟨isW_okC W3, show (-1000000 : Int) ≤ 3 by decide, show (3 : Int) ≤ 1000000 by decide⟩
theorem okCh1 {d : Dig} : ∀ p ∈ [((1 : Int), (⟨sOne, d⟩ : Said))], okC p.2.change ∧ -1000000 ≤ p.1 ∧ p.1 ≤ 1000000 := by
  intro p hp
  rw [List.mem_singleton] at hp
  subst hp
  exact ⟨isW_okC W1, show (-1000000 : Int) ≤ 1 by decide, show (1 : Int) ≤ 1000000 by decide⟩
def awk_c : Con D := { ts := [], rt := [.bool], ret := fun _ => (true, ()) }
theorem awk_ok : awk_c.ok Tryz.prog 16 := Con.proveH (c := awk_c) EF ZL (H := fun _ _ _ => none) (call := fun _ => callsG EF ZL ΛL ΓL ΔM (fun _ _ => none) 4) (fun _ => callsG_ok Ll KM1 4) fun (a : HL D awk_c.ts) (_ : awk_c.holds a) =>
  have hf : (1 : Int) = 1 ∨ (1 : Int) = 2 := .inl rfl
  nmd (a := bn_c.post () ()) (fun q1 _ =>
  And.intro (Pre.mk ⟨.inl rfl, by decide, by decide⟩ : Pre (okF 1 2)) (
  nmd (a := fr_c.post ((1 : Int), (2 : Int), ()) q1.2) (fun q2 h2 =>
  have F0 : Fct 1 2 [] [] (kP q2.2) := by rw [← h2]; exact ⟨rfl, rfl, rfl⟩
  And.intro (Pre.mk W1 : Pre (isW sOne)) (
  And.intro (Pre.mk (.inl ⟨(0, 1, 1), rfl, by decide, by decide⟩) : Pre (isNt (tells sOne))) (
  nmd (a := tksP (kP q2.2) (tells sOne) [ackW 2 sOne]) (fun q3 h3 =>
  have G3 : q3.1.1 = true ∧ Fct 1 2 [(1, dgS sOne)] [] q3.2 := by rw [← h3]; exact tks_tell F0 hf (by decide) (by decide) (by decide) (by decide)
  bq (!q3.1.1) (fun h => (by rw [G3.1] at h; exact absurd h (by decide) : some (false, ()) = some (true, ()))) (fun _ =>
  have O3 := G3.2.okK hf (by decide) okCh1
  And.intro (Pre.mk O3 : Pre (okK q3.2)) (
  nmd (a := (rdyL q3.2 2 (rdyK q3.2), ())) (fun q5 h5 =>
  have G5 : q5.1 = [] := by rw [← h5]; exact (G3.2.rdy 2).trans (aw1 _)
  brL fun _ : q5.1.length ≤ maxL =>
  bq (((q5.1.length : Nat) : Int) != 0) (fun h => (by rw [G5] at h; exact absurd h (by decide) : some (false, ()) = some (true, ()))) (fun _ =>
  And.intro (Pre.mk W1 : Pre (isW sOne)) (
  And.intro (Pre.mk (ackNt_nt 2 0 1 _ (by decide) (by decide) (by decide) (by decide)) : Pre (isNt (ackW 3 sOne))) (
  nmd (a := tksP q3.2 (ackW 3 sOne) []) (fun q8 h8 =>
  have G8 : q8.1.1 = true ∧ Fct 1 2 [(1, dgS sOne)] [(⟨3, 1⟩, ⟨2, (dgS sOne).dig⟩)] q8.2 := by rw [← h8]; exact tks_ack G3.2 hf (by decide) (by decide) (by decide) (by decide) (by decide) (by decide)
  bq (!q8.1.1) (fun h => (by rw [G8.1] at h; exact absurd h (by decide) : some (false, ()) = some (true, ()))) (fun _ =>
  have O8 := G8.2.okK hf (by decide) okCh1
  both (And.intro (Pre.mk O8 : Pre (okK q8.2)) (
  nmd (a := (rdyL q8.2 2 (rdyK q8.2), ())) (fun q10 h10 =>
  have G10 : q10.1 = [sOne] := by rw [← h10]; exact (G8.2.rdy 2).trans (aw3 _)
  bq (!eqB (α := Change) q10.1 [sOne]) (fun h => (by rw [G10] at h; unfold eqB at h; simp at h : some (false, ()) = some (true, ()))) (fun _ =>
  And.intro (Pre.mk O8 : Pre (okK q8.2)) (
  nmd (a := jnP q8.2 0) (fun q12 h12 =>
  have G12 : q12 = (0, false, ()) := by rw [← h12]; exact (G8.2.jn 0).trans (aw4 _ _)
  And.intro (Pre.mk W3 : Pre (isW sThree)) (
  And.intro (Pre.mk (.inl ⟨(2, 1, 3), rfl, by decide, by decide⟩) : Pre (isNt (tells sThree))) (
  nmd (a := tksP q8.2 (tells sThree) [ackW 2 sThree]) (fun q13 h13 =>
  have G13 : q13.1.1 = true ∧ Fct 1 2 (chT (dgS sOne).dig (dgS sThree).dig) [(⟨3, 1⟩, ⟨2, (dgS sOne).dig⟩)] q13.2 := by rw [← h13]; exact tks_tell G8.2 hf (by decide) (by decide) (by decide) (by decide)
  have O13 := G13.2.okK hf (by decide) okCh
  And.intro (Pre.mk O13 : Pre (okK q13.2)) (
  nmd (a := jnP q13.2 0) (fun q14 h14 =>
  have G14 : q14 = (2, true, ()) := by rw [← h14]; exact (G13.2.jn 0).trans (aw5 _ _ _)
  And.intro (Pre.mk O13 : Pre (okK q13.2)) (
  nmd (a := jnP q13.2 2) (fun q15 h15 =>
  have G15 : q15 = (0, false, ()) := by rw [← h15]; exact (G13.2.jn 2).trans (aw6 _ _ _)
  And.intro (Pre.mk ⟨W4, O13⟩ : Pre (isW sFour ∧ okK q13.2)) (
  nmd (a := vchP q13.2 sFour) (fun q16 h16 =>
  have G16 : q16.1.1 = false ∧ Fct 1 2 (chT (dgS sOne).dig (dgS sThree).dig) [(⟨3, 1⟩, ⟨2, (dgS sOne).dig⟩)] q16.2 := by rw [← h16]; have := vch_four G13.2 hf (c := sFour) (by decide) (by decide); exact ⟨this.1.trans (aw9 _ _), this.2⟩
  bq (bif bif bif bif bif !q12.2.1 then q13.1.1 else false then q14.2.1 else false then q14.1 == 2 else false then !q15.2.1 else false then !q16.1.1 else false) (fun _ =>
  And.intro (Pre.mk W4 : Pre (isW sFour)) (
  And.intro (Pre.mk (ackNt_nt 0 3 1 _ (by decide) (by decide) (by decide) (by decide)) : Pre (isNt (ackW 1 sFour))) (
  nmd (a := tksP q16.2 (ackW 1 sFour) []) (fun q18 h18 =>
  have G18 : q18.1.1 = true ∧ Fct 1 2 (chT (dgS sOne).dig (dgS sThree).dig) (akA (dgS sOne).dig) q18.2 := by rw [← h18]; exact tks_ack G16.2 hf (by decide) (by decide) (by decide) (by decide) (by decide) (by decide)
  bq (q18.1.1) (fun _ =>
  have O18 := G18.2.okK hf (by decide) okCh
  And.intro (Pre.mk ⟨W4, O18⟩ : Pre (isW sFour ∧ okK q18.2)) (
  nmd (a := vchP q18.2 sFour) (fun q20 h20 =>
  have G20 : q20.1.1 = false ∧ Fct 1 2 (chT (dgS sOne).dig (dgS sThree).dig) (akA (dgS sOne).dig) q20.2 := by rw [← h20]; have := vch_four G18.2 hf (c := sFour) (by decide) (by decide); exact ⟨this.1.trans (aw10 _ _), this.2⟩
  bq (!q20.1.1) (fun _ =>
  And.intro (Pre.mk W4 : Pre (isW sFour)) (
  And.intro (Pre.mk (ackNt_nt 2 3 1 _ (by decide) (by decide) (by decide) (by decide)) : Pre (isNt (ackW 3 sFour))) (
  nmd (a := tksP q20.2 (ackW 3 sFour) []) (fun q22 h22 =>
  have G22 : q22.1.1 = true ∧ Fct 1 2 (chT (dgS sOne).dig (dgS sThree).dig) (akB (dgS sOne).dig) q22.2 := by rw [← h22]; exact tks_ack G20.2 hf (by decide) (by decide) (by decide) (by decide) (by decide) (by decide)
  bq (q22.1.1) (fun _ =>
  have O22 := G22.2.okK hf (by decide) okCh
  And.intro (Pre.mk ⟨W4, O22⟩ : Pre (isW sFour ∧ okK q22.2)) (
  nmd (a := vchP q22.2 sFour) (fun q24 h24 =>
  have G24 : q24.1.1 = true ∧ Fct 1 2 (chT (dgS sOne).dig (dgS sThree).dig) (akB (dgS sOne).dig) q24.2 := by rw [← h24]; have := vch_four G22.2 hf (c := sFour) (by decide) (by decide); exact ⟨this.1.trans (aw11 _ _), this.2⟩
  have O24 := G24.2.okK hf (by decide) okCh
  bq (q24.1.1) (fun _ =>
  And.intro (Pre.mk O24 : Pre (okK q24.2)) (
  nmd (a := (((bhC q24.2 2 (keysK q24.2) : Nat) : Int), ())) (fun q26 h26 =>
  have G26 : q26.1 = 2 := by rw [← h26]; show ((bhC q24.2 2 (keysK q24.2) : Nat) : Int) = 2; rw [G24.2.bh 2, aw7]; rfl
  bq (q26.1 == 2) (fun _ =>
  And.intro (Pre.mk O24 : Pre (okK q24.2)) (
  nmd (a := (((bhC q24.2 3 (keysK q24.2) : Nat) : Int), ())) (fun q28 h28 =>
  have G28 : q28.1 = 0 := by rw [← h28]; show ((bhC q24.2 3 (keysK q24.2) : Nat) : Int) = 0; rw [G24.2.bh 3, aw8]; rfl
  (by rw [G28]; rfl : some (q28.1 == 0, ()) = some (true, ()))))) (fun h => (by rw [G26] at h; exact absurd h (by decide) : some (false, ()) = some (true, ())))))) (fun h => (by rw [G24.1] at h; exact absurd h (by decide) : some (false, ()) = some (true, ())))))) (fun h => (by rw [G22.1] at h; exact absurd h (by decide) : some (false, ()) = some (true, ()))))))) (fun h => (by rw [G20.1] at h; exact absurd h (by decide) : some (false, ()) = some (true, ())))))) (fun h => (by rw [G18.1] at h; exact absurd h (by decide) : some (false, ()) = some (true, ()))))))) (fun h => (by rw [G12, G13.1, G14, G15, G16.1] at h; exact absurd h (by decide) : some (false, ()) = some (true, ()))))))))))))))))))))))))))))))))
end Go.Proofs.YtpbcabanpppfoaaGreat
