/- Change: what a council of the statements holds, if f at most lie, in plain words. No condition. -/
import Derived.Test.YtpbcabanpppfoaaGreatCzAw
set_option linter.all false
namespace Go.Proofs.YtpbcabanpppfoaaGreat
open Go Go.Gx Go.Vz
set_option maxRecDepth 100000
/-! ### bytes -/
theorem dig2_at (b : UInt8) : (dig2 b 1).l.getD 0 0 = b := rfl
theorem w_inj {n v : Int} {b c : UInt8} (h : chBytes (says n v b) = chBytes (says n v c)) : b = c := by
  rw [← w_eq, ← w_eq] at h
  unfold w11 w10 at h
  have h := List.append_cancel_left (List.append_cancel_right h)
  have := congrArg (fun l : List UInt8 => l.getD 0 0) h
  rw [← dig2_at b, ← dig2_at c]; exact this
theorem says_inj {n v m u : Int} {b c : UInt8} (h : says n v b = says m u c) : n = m ∧ v = u ∧ b = c := by
  unfold says at h
  simp only [Change.mk.injEq, List.cons.injEq, Stand.mk.injEq] at h
  obtain ⟨h1, h2, -, -, -, h3, -⟩ := h
  refine ⟨h1, h2, ?_⟩
  have := congrArg (fun d : Dig => d.l.getD 0 0) h3.2.1
  rw [← dig2_at b, ← dig2_at c]; exact this
/-! ### the book -/
/-- It was noted, or there was a clash. -/
def inB (k : KD) (b : List UInt8) : Prop := kMo k ≠ [] ∨ mgetT (E := D) .dig .str (kSn k) (shaD b) = some b
theorem mput_ne {κ β : Type} [DecidableEq κ] {l : List (κ × β)} {x : κ} {v : β} : mput l x v ≠ [] := by
  cases l with
  | nil => simp [mput]
  | cons p r =>
    unfold mput
    by_cases h : p.1 = x
    · rw [if_pos h]; simp
    · rw [if_neg h]; simp
theorem bkM_ne {b : List UInt8} {m : List (Dig × List UInt8)} {r : List (List UInt8 × Bool)} (h : r ≠ []) : bkM b m r ≠ [] := by
  unfold bkM
  cases (!(mgetT (E := D) .dig .str m (shaD b)).isSome) with
  | true => exact h
  | false =>
    cases (!decide ((mgetT (E := D) .dig .str m (shaD b)).getD [] = b)) with
    | true => exact @mput_ne (List UInt8) Bool (Ty.dec D .str) r b true
    | false => exact h
theorem sn_put {m : List (Dig × List UInt8)} {d e : Dig} {b : List UInt8} : mgetT (E := D) .dig .str (mputT (E := D) .dig .str m d b) e = if d = e then some b else mgetT (E := D) .dig .str m e := by
  have := @mget_mput1 Dig (List UInt8) (Ty.dec D .dig) m d e b
  refine Eq.trans this ?_
  by_cases h : d = e
  · rw [if_pos h, if_pos h]
  · rw [if_neg h, if_neg h]; rfl
theorem inB_ink (k : KD) (b : List UInt8) : inB (kInk k b) b := by
  show bkM b (kSn k) (kMo k) ≠ [] ∨ mgetT (E := D) .dig .str (bkS b (kSn k)) (shaD b) = some b
  unfold bkM bkS
  cases h : mgetT (E := D) .dig .str (kSn k) (shaD b) with
  | none =>
    right
    show mgetT (E := D) .dig .str (mputT (E := D) .dig .str (kSn k) (shaD b) b) (shaD b) = some b
    rw [sn_put, if_pos rfl]
  | some c =>
    by_cases e : c = b
    · right
      subst e
      show mgetT (E := D) .dig .str (kSn k) (shaD c) = some c
      exact h
    · left
      show (bif !decide ((c : List UInt8) = b) then mputT (E := D) .str .bool (kMo k) b true else kMo k) ≠ []
      rw [show decide ((c : List UInt8) = b) = false by simpa using e]
      exact @mput_ne (List UInt8) Bool (Ty.dec D .str) (kMo k) b true
theorem inB_keep {k : KD} {b : List UInt8} (h : inB k b) (c : List UInt8) : inB (kInk k c) b := by
  rcases h with h | h
  · exact .inl (bkM_ne h)
  · right
    show mgetT (E := D) .dig .str (bkS c (kSn k)) (shaD b) = some b
    unfold bkS
    cases hc : mgetT (E := D) .dig .str (kSn k) (shaD c) with
    | some d => exact h
    | none =>
      show mgetT (E := D) .dig .str (mputT (E := D) .dig .str (kSn k) (shaD c) c) (shaD b) = some b
      rw [sn_put]
      by_cases e : shaD c = shaD b
      · rw [e, h] at hc; cases hc
      · rw [if_neg e]; exact h
theorem inB_two {k : KD} {b c : List UInt8} (h1 : inB k b) (h2 : inB k c) (hd : shaD b = shaD c) (hn : b ≠ c) : kMo k ≠ [] := by
  rcases h1 with h1 | h1
  · exact h1
  · rcases h2 with h2 | h2
    · exact h2
    · rw [hd, h2] at h1
      exact absurd (Option.some.inj h1).symm hn
/-! ### words -/
section
variable (f : Int) (w : Word)
def wFr : Int := 1 + brg w.sender (3 * f + 1)
def wN0 : Int := 1 + brg w.node (3 * f + 1)
def wVw : Int := 1 + brg w.view 4
def wNd : Int := bif w.acks then (bif wN0 f w == wFr f w then 1 + Int.tmod (wN0 f w) (3 * f + 1) else wN0 f w) else wFr f w
def wBy : UInt8 := bif (bif decide (wNd f w ≤ f) then true else bif w.acks then decide (wFr f w ≤ f) else false) then w.b else byt (wNd f w)
def wCh : Change := says (wNd f w) (wVw w) (wBy f w)
def wNt : Note := bif w.acks then ackW (wFr f w) (wCh f w) else tells (wCh f w)
end
section
variable {f : Int} (hf : f = 1 ∨ f = 2) {w : Word}
include hf
theorem wFr_ok : 1 ≤ wFr f w ∧ wFr f w ≤ 3 * f + 1 := by
  have := brg_ok (x := w.sender) (n := 3 * f + 1) (by omega) (by omega)
  unfold wFr; omega
theorem wN0_ok : 1 ≤ wN0 f w ∧ wN0 f w ≤ 3 * f + 1 := by
  have := brg_ok (x := w.node) (n := 3 * f + 1) (by omega) (by omega)
  unfold wN0; omega
omit hf in
theorem wVw_ok : 1 ≤ wVw w ∧ wVw w ≤ 4 := by
  have := brg_ok (x := w.view) (n := 4) (by omega) (by omega)
  unfold wVw; omega
theorem wTm_ok {x : Int} (h1 : 1 ≤ x) (h2 : x ≤ 3 * f + 1) : 1 ≤ 1 + Int.tmod x (3 * f + 1) ∧ 1 + Int.tmod x (3 * f + 1) ≤ 3 * f + 1 ∧ 1 + Int.tmod x (3 * f + 1) ≠ x := by
  rw [Int.tmod_eq_emod_of_nonneg (by omega)]
  rcases hf with rfl | rfl <;> omega
theorem wNd_ok : 1 ≤ wNd f w ∧ wNd f w ≤ 3 * f + 1 ∧ (w.acks = true → wNd f w ≠ wFr f w) := by
  have h1 := wFr_ok hf (w := w)
  have h2 := wN0_ok hf (w := w)
  have h3 := wTm_ok hf h2.1 h2.2
  unfold wNd
  cases w.acks with
  | false => exact ⟨h1.1, h1.2, fun h => by cases h⟩
  | true =>
    simp only [cond_true]
    cases hb : wN0 f w == wFr f w with
    | true =>
      have hb : wN0 f w = wFr f w := by simpa using hb
      exact ⟨h3.1, h3.2.1, fun _ => by rw [← hb]; exact h3.2.2⟩
    | false =>
      have hb : wN0 f w ≠ wFr f w := by simpa using hb
      exact ⟨h2.1, h2.2, fun _ => hb⟩
theorem wBy_ok (h1 : f < wNd f w) (h2 : w.acks = true → f < wFr f w) : wBy f w = byt (wNd f w) := by
  unfold wBy
  rw [show decide (wNd f w ≤ f) = false by simp; omega]
  cases ha : w.acks with
  | false => rfl
  | true =>
    have := h2 ha
    rw [show decide (wFr f w ≤ f) = false by simp; omega]
    rfl
end
/-! ### what the council holds -/
structure TI (f : Int) (i : Nat) (k : KD) : Prop where
  hd : k.1 = (crewS f, 3 * f + 1, 1, 1, ())
  nd : ((kCh k).map fun p : Int × Said => p.1).Nodup
  len : (kCh k).length ≤ i
  ch : ∀ n s, sdO (kCh k) n = some s → 1 ≤ n ∧ n ≤ 3 * f ∧ ∃ v b, 1 ≤ v ∧ v ≤ 4 ∧ s = dgS (says n v b) ∧ (f < n → b = byt n)
  ak : ∀ x n a, akO (kAk k) ⟨x, n⟩ = some a → ∃ b, a.dig = shaD (chBytes (says n a.view b)) ∧ inB k (chBytes (says n a.view b)) ∧ (f < x → f < n → b = byt n)
section
variable {f : Int} {i : Nat} {k : KD}
theorem TI.fct (h : TI f i k) : Fct f (3 * f + 1) (kCh k) (kAk k) k := ⟨h.hd, rfl, rfl⟩
theorem TI.ink (h : TI f i k) (b : List UInt8) : TI f i (kInk k b) :=
  ⟨h.hd, h.nd, h.len, h.ch, fun x n a ha => by obtain ⟨c, h1, h2, h3⟩ := h.ak x n a ha; exact ⟨c, h1, inB_keep h2 b, h3⟩⟩
theorem TI.up (h : TI f i k) : TI f (i + 1) k := ⟨h.hd, h.nd, Nat.le_succ_of_le h.len, h.ch, h.ak⟩
theorem hears_2 (n : Note) : (hearsP k n).2 = k ∨ (hearsP k n).2 = kAks k (akPut (kAk k) ⟨n.sender, n.node⟩ ⟨n.view, n.dig⟩) := by
  unfold hearsP
  cases decide (n.view < (akG (kAk k) ⟨n.sender, n.node⟩).view) with
  | true => exact .inl rfl
  | false =>
    cases (bif (akG (kAk k) ⟨n.sender, n.node⟩).view == n.view then !((akG (kAk k) ⟨n.sender, n.node⟩).view == n.view && (decide ((akG (kAk k) ⟨n.sender, n.node⟩).dig = n.dig) && true)) else false) with
    | true => exact .inl rfl
    | false => exact .inr rfl
theorem takeC_2 (n : Note) : (takeC k n).2 = kInk k (chBytes n.change) ∨ (takeC k n).2 = kChs (kInk k (chBytes n.change)) (chPut (kCh k) n.sender (dgS n.change)) := by
  unfold takeC
  cases decide (n.change.view < (sd (kCh k) n.sender).change.view) with
  | true => exact .inl rfl
  | false =>
    cases (bif (sd (kCh k) n.sender).change.view == n.change.view then !dq (α := Change) (sd (kCh k) n.sender).change n.change else false) with
    | true => exact .inl rfl
    | false =>
      cases (sd (kCh k) n.sender).change.view == n.change.view with
      | true => exact .inl rfl
      | false => exact .inr rfl
theorem take_me (h : TI f i k) (hf : f = 1 ∨ f = 2) {n : Note} (hk : n.kind = 7 ∨ n.kind = 8) (hg : n.group = 1) (he : n.epoch = 1) (hs : n.sender = 3 * f + 1) : takeP k n = (([], 110, ()), k) := by
  have F := h.fct
  unfold takeP
  rw [F.gr, F.ep, F.cr, F.sf, hg, he, hs, hasB_ok hf (by omega) (by omega)]
  rcases hk with hk | hk <;> rw [hk] <;> simp
theorem TI.take (h : TI f i k) (hf : f = 1 ∨ f = 2) {w : Word} (hB : inB k (chBytes (wCh f w))) : TI f (i + 1) (takeP k (wNt f w)).2 := by
  have h0 := wFr_ok hf (w := w)
  have h1 := wNd_ok hf (w := w)
  have h2 := wVw_ok (w := w)
  have hb := wBy_ok hf (w := w)
  by_cases hm : wFr f w = 3 * f + 1
  · have : takeP k (wNt f w) = (([], 110, ()), k) := by
      refine take_me h hf ?_ ?_ ?_ ?_
      · unfold wNt
        cases w.acks with
        | true => exact .inr rfl
        | false => exact .inl rfl
      · unfold wNt; cases w.acks <;> rfl
      · unfold wNt; cases w.acks <;> rfl
      · rw [← hm]; unfold wNt
        cases ha : w.acks with
        | true => rfl
        | false =>
          show wNd f w = wFr f w
          unfold wNd; rw [ha]; rfl
    rw [this]; exact h.up
  · cases ha : w.acks with
    | true =>
      have e : wNt f w = ackW (wFr f w) (wCh f w) := by unfold wNt; rw [ha]; rfl
      rw [e, take_ack h.fct hf h0.1 h0.2 hm h1.1 h1.2.1]
      rcases hears_2 (k := k) (ackW (wFr f w) (wCh f w)) with g | g
      · show TI f (i + 1) (hearsP k (ackW (wFr f w) (wCh f w))).2
        rw [g]; exact h.up
      · show TI f (i + 1) (hearsP k (ackW (wFr f w) (wCh f w))).2
        rw [g]
        refine ⟨h.hd, h.nd, Nat.le_succ_of_le h.len, h.ch, fun x n a hx => ?_⟩
        have hx : akO (akPut (kAk k) ⟨wFr f w, wNd f w⟩ ⟨wVw w, shaD (chBytes (wCh f w))⟩) ⟨x, n⟩ = some a := hx
        by_cases hp : (⟨wFr f w, wNd f w⟩ : Pair) = ⟨x, n⟩
        · rw [hp, akO_put_eq] at hx
          obtain rfl := (Option.some.inj hx).symm
          simp only [Pair.mk.injEq] at hp
          obtain ⟨rfl, rfl⟩ := hp
          exact ⟨wBy f w, rfl, hB, fun q1 q2 => hb q2 (fun _ => q1)⟩
        · rw [akO_put hp] at hx
          exact h.ak x n a hx
    | false =>
      have en : wNd f w = wFr f w := by unfold wNd; rw [ha]; rfl
      have e : wNt f w = tells (wCh f w) := by unfold wNt; rw [ha]; rfl
      have e2 : takeP k (tells (wCh f w)) = takeC k (tells (wCh f w)) := take_tell h.fct hf h1.1 h1.2.1 (by rw [en]; exact hm)
      rw [e, e2]
      rcases takeC_2 (k := k) (tells (wCh f w)) with g | g
      · rw [g]; exact (h.ink _).up
      · rw [g]
        have hk := h.ink (chBytes (wCh f w))
        refine ⟨h.hd, chPut_nodup h.nd, Nat.le_trans (@mput_len Int Said (Ty.dec D .int) (kCh k) (wNd f w) (dgS (wCh f w))) (Nat.succ_le_succ h.len), fun n s hs => ?_, hk.ak⟩
        have hs : sdO (chPut (kCh k) (wNd f w) (dgS (wCh f w))) n = some s := hs
        rw [sdO_put] at hs
        by_cases hn : wNd f w = n
        · rw [if_pos hn] at hs
          obtain rfl := (Option.some.inj hs).symm
          subst hn
          exact ⟨h1.1, by rw [en] at *; omega, wVw w, wBy f w, h2.1, h2.2, rfl, fun q => hb q (fun q2 => by rw [ha] at q2; cases q2)⟩
        · rw [if_neg hn] at hs
          exact h.ch n s hs
theorem TI.okK (h : TI f i k) (hf : f = 1 ∨ f = 2) (hi : i ≤ 1000) : okK k := by
  refine h.fct.okK hf (Nat.le_trans h.len hi) fun p hp => ?_
  obtain ⟨h1, h2, v, b, -, -, h3, -⟩ := h.ch _ _ (sdO_of_mem h.nd hp)
  rw [h3]
  exact ⟨⟨by show 1 ≤ _; omega, by show 0 ≤ _; omega, by show 1 ≤ _; omega⟩, by omega, by omega⟩
/-! ### what is vouched for -/
theorem oth_le {n : Int} (hf : f = 1 ∨ f = 2) : (othS (crewS f) n).countP (fun x => decide (x ≤ f)) ≤ f.toNat ∧ ∀ x ∈ othS (crewS f) n, 1 ≤ x := by
  rcases hf with rfl | rfl
  · have e : othS (crewS 1) n = [1, 2, 3, 4].filter fun x => !(x == n) := rfl
    rw [e]
    refine ⟨Nat.le_trans (List.Sublist.countP_le List.filter_sublist) (by decide), fun x hx => ?_⟩
    have := (List.mem_filter.1 hx).1
    simp only [List.mem_cons, List.not_mem_nil, or_false] at this
    omega
  · have e : othS (crewS 2) n = [1, 2, 3, 4, 5, 6, 7].filter fun x => !(x == n) := rfl
    rw [e]
    refine ⟨Nat.le_trans (List.Sublist.countP_le List.filter_sublist) (by decide), fun x hx => ?_⟩
    have := (List.mem_filter.1 hx).1
    simp only [List.mem_cons, List.not_mem_nil, or_false] at this
    omega
theorem TI.vch (h : TI f i k) (hf : f = 1 ∨ f = 2) {n v : Int} {b : UInt8} (hn : f < n) (hv : 1 ≤ v) (hb : b ≠ byt n) (hq : vchB k (says n v b) = true) : kMo (kInk k (chBytes (says n v b))) ≠ [] := by
  have e1 : (bif (sdO (kCh k) n).isSome then dq (α := Change) (sd (kCh k) n).change (says n v b) else false) = false := by
    cases hs : sdO (kCh k) n with
    | none => rfl
    | some s =>
      obtain ⟨-, -, u, c, -, -, rfl, g⟩ := h.ch _ _ hs
      unfold sd
      rw [hs]
      show dq (α := Change) (says n u c) (says n v b) = false
      unfold dq
      rw [decide_eq_false_iff_not]
      intro e
      have := (says_inj e).2.2
      rw [g hn] at this
      exact hb this.symm
  have hq : (bif (bif (sdO (kCh k) n).isSome then dq (α := Change) (sd (kCh k) n).change (says n v b) else false) then true else decide (someN (kCr k) ≤ (hrN k (dgS (says n v b)) 0 : Int))) = true := hq
  rw [e1, cond_false] at hq
  have hq := of_decide_eq_true hq
  rw [h.fct.cr] at hq
  have hN : someN (crewS f) = f + 1 := by rcases hf with rfl | rfl <;> rfl
  rw [hN] at hq
  have hx : ∃ x ∈ othS (crewS f) n, hrB k (dgS (says n v b)) 0 x = true ∧ f < x := by
    apply Decidable.byContradiction
    intro hx
    have : hrN k (dgS (says n v b)) 0 ≤ (othS (crewS f) n).countP (fun x => decide (x ≤ f)) := by
      unfold hrN
      rw [h.fct.cr]
      refine List.countP_mono_left fun x hm hp => ?_
      apply decide_eq_true
      apply Decidable.byContradiction
      intro hl
      exact hx ⟨x, hm, hp, by omega⟩
    have := (oth_le hf (n := n)).1
    omega
  obtain ⟨x, hm, hp, hl⟩ := hx
  have hp : (bif x == 0 then false else bif x == kSf k then (bif (sdO (kCh k) n).isSome then dq (α := Change) (sd (kCh k) n).change (says n v b) else false)
    else (akG (kAk k) ⟨x, n⟩).view == v && (decide ((akG (kAk k) ⟨x, n⟩).dig = shaD (chBytes (says n v b))) && true)) = true := hp
  rw [e1, show (x == 0) = false by simp; omega, cond_false] at hp
  cases hsf : x == kSf k with
  | true => rw [hsf] at hp; cases hp
  | false =>
    rw [hsf, cond_false, Bool.and_true, Bool.and_eq_true] at hp
    obtain ⟨p1, p2⟩ := hp
    have p1 : (akG (kAk k) ⟨x, n⟩).view = v := by simpa using p1
    have p2 := of_decide_eq_true p2
    have ho : ∃ a, akO (kAk k) ⟨x, n⟩ = some a := by
      cases ho : akO (kAk k) ⟨x, n⟩ with
      | some a => exact ⟨a, rfl⟩
      | none =>
        have e0 : akG (kAk k) ⟨x, n⟩ = ack0 := congrArg (fun o : Option Ack => o.getD ack0) ho
        rw [e0] at p1
        have : (0 : Int) = v := p1
        omega
    obtain ⟨a, ho⟩ := ho
    have hg : akG (kAk k) ⟨x, n⟩ = a := congrArg (fun o : Option Ack => o.getD ack0) ho
    rw [hg] at p1 p2
    obtain ⟨c, g1, g2, g3⟩ := h.ak _ _ _ ho
    rw [p1] at g1 g2
    have hc := g3 hl hn
    subst hc
    refine inB_two (inB_keep g2 _) (inB_ink k _) (by rw [← g1, p2]) fun e => hb (w_inj e).symm
/-! ### what is ready -/
theorem TI.key (h : TI f i k) {x : Int} (hx : x ∈ keysK k) : 1 ≤ x ∧ x ≤ 3 * f ∧ ∃ v b, 1 ≤ v ∧ v ≤ 4 ∧ sdO (kCh k) x = some (dgS (says x v b)) ∧ (f < x → b = byt x) := by
  obtain ⟨s, hs⟩ := @mget_key Int Said (Ty.dec D .int) (kCh k) x hx
  have hs : sdO (kCh k) x = some s := hs
  obtain ⟨h1, h2, v, b, h3, h4, rfl, h5⟩ := h.ch _ _ hs
  exact ⟨h1, h2, v, b, h3, h4, hs, h5⟩
theorem TI.rdy (h : TI f i k) {v : Int} {c : Change} (hc : c ∈ rdyL k v (rdyK k)) : ∃ n b, c = says n v b ∧ 1 ≤ n ∧ n ≤ 3 * f ∧ 1 ≤ v ∧ v ≤ 4 ∧ (f < n → b = byt n) ∧ vchB k c = true := by
  unfold rdyL at hc
  obtain ⟨x, hx, rfl⟩ := List.mem_map.1 hc
  obtain ⟨hx, hr⟩ := List.mem_filter.1 hx
  obtain ⟨h1, h2, u, b, h3, h4, hs, h5⟩ := h.key ((isort_perm _).mem_iff.1 hx)
  have e : sd (kCh k) x = dgS (says x u b) := by unfold sd; rw [hs]; rfl
  unfold rdyB at hr
  rw [e] at hr ⊢
  cases hv : (dgS (says x u b)).change.view == v with
  | false => rw [hv] at hr; cases hr
  | true =>
    have hv : (says x u b).view = v := by simpa using hv
    have hv : u = v := hv
    subst hv
    refine ⟨x, b, rfl, h1, h2, h3, h4, h5, ?_⟩
    show (bif (bif (sdO (kCh k) x).isSome then dq (α := Change) (sd (kCh k) x).change (says x u b) else false) then true else _) = true
    rw [e, hs]
    show (bif dq (α := Change) (says x u b) (says x u b) then true else _) = true
    unfold dq
    simp
end
end Go.Proofs.YtpbcabanpppfoaaGreat
