/- Change: all that councils tell each other comes to all, in plain words. No condition. -/
import Derived.Test.YtpbcabanpppfoaaGreatCzCy
set_option linter.all false
namespace Go.Proofs.YtpbcabanpppfoaaGreat
open Go Go.Gx Go.Vz
set_option maxRecDepth 100000
abbrev ndI (j : Nat) : Int := ((j + 2 : Nat) : Int)
theorem ndI_eq (j : Nat) : ndI j = (j : Int) + 2 := by show ((j + 2 : Nat) : Int) = _; omega
/-- One council has moved on; all have its book. -/
def stpL (l : List KD) (m : Nat) (q : KD) : List KD := (l.map fun k => wb k q).set m q
theorem stpL_at {l : List KD} {m j : Nat} {q k : KD} (h : (stpL l m q)[j]? = some k) : (j = m ∧ k = q) ∨ (j ≠ m ∧ ∃ k0, l[j]? = some k0 ∧ k = wb k0 q) := by
  unfold stpL at h
  by_cases e : j = m
  · subst e
    rw [List.getElem?_set_self' ] at h
    left
    refine ⟨rfl, ?_⟩
    cases hh : (l.map fun k => wb k q)[j]? with
    | none => rw [hh] at h; cases h
    | some x => rw [hh] at h; exact (Option.some.inj h).symm
  · right
    rw [List.getElem?_set_ne (fun h => e h.symm), List.getElem?_map] at h
    obtain ⟨k0, h1, h2⟩ := Option.map_eq_some_iff.1 h
    exact ⟨e, k0, h1, h2.symm⟩
section
variable (b : Int → UInt8) (f : Int)
structure SI (l : List KD) (said : List Note) (i : Nat) : Prop where
  n : (l.length : Int) = 2 * f + 1
  ck : ∀ (j : Nat) (k : KD), l[j]? = some k → CK b f (ndI j) k
  gd : ∀ n ∈ said, Gd b f n
  bt : ∀ y, In f y → tells (kc b y y) ∈ said
  bd : ∀ y, In f y → ackW y (kc b y 1) ∈ said
  em : ∀ (j : Nat) (k : KD) (y : Int), l[j]? = some k → In f y → y ≠ ndI j → (sdO (kCh k) y).isSome = true → ackW (ndI j) (kc b (ndI j) y) ∈ said
  len : said.length ≤ (l.map fun k => (kCh k).length).sum
  eff : ∀ (j : Nat) (k : KD) (n : Note), l[j]? = some k → n ∈ said.take i → Eff b f (ndI j) n k
  inb : ∀ (j : Nat) (k : KD) (y : Int), l[j]? = some k → In f y → inB k (chBytes (kc b y 1))
  il : i ≤ said.length
structure MidS (l : List KD) (said : List Note) (i : Nat) (n : Note) (m : Nat) : Prop where
  si : SI b f l said i
  ef : ∀ (j : Nat) (k : KD), j < m → l[j]? = some k → Eff b f (ndI j) n k
end
section
variable {b : Int → UInt8} {f : Int} {l : List KD} {said : List Note} {i m : Nat} {n : Note} {k : KD}
theorem SI.in_ (h : SI b f l said i) {j : Nat} {k : KD} (hj : l[j]? = some k) : In f (ndI j) := by
  have := (List.getElem?_eq_some_iff.1 hj).1
  have := h.n
  have := ndI_eq j
  exact ⟨by omega, by omega⟩
theorem sum_wb {q : KD} : ∀ {l : List KD}, ((l.map fun k => wb k q).map fun k => (kCh k).length) = l.map fun k => (kCh k).length
  | [] => rfl
  | k :: l => by rw [List.map_cons, List.map_cons, List.map_cons, sum_wb]; rfl
theorem sum_set : ∀ {l : List Nat} {m x y : Nat}, l[m]? = some x → (l.set m y).sum + x = l.sum + y
  | [], m, x, y, h => by simp at h
  | a :: l, 0, x, y, h => by simp at h; subst h; simp; omega
  | a :: l, m + 1, x, y, h => by
    have := sum_set (l := l) (m := m) (x := x) (y := y) (by simpa using h)
    simp only [List.set_cons_succ, List.sum_cons]; omega
theorem stpL_sum {q : KD} (hk : l[m]? = some k) : ((stpL l m q).map fun k => (kCh k).length).sum + (kCh k).length = (l.map fun k => (kCh k).length).sum + (kCh q).length := by
  unfold stpL
  rw [List.map_set, sum_wb]
  exact sum_set (by rw [List.getElem?_map, hk]; rfl)
theorem MidS.step (hf : f = 1 ∨ f = 2) (h : MidS b f l said i n m) (hk : l[m]? = some k) (hn : Gd b f n) : MidS b f (stpL l m (takeP k n).2) (said ++ exA (takeP k n)) i n (m + 1) := by
  have s := (h.si.ck _ _ hk).step hf (h.si.in_ hk) hn
  have hi := h.si
  have htk : ∀ x, x ∈ (said ++ exA (takeP k n)).take i → x ∈ said.take i := fun x hx => by rwa [List.take_append_of_le_length hi.il] at hx
  refine ⟨⟨?_, fun j k' hj => ?_, fun x hx => ?_, fun y hy => List.mem_append_left _ (hi.bt y hy), fun y hy => List.mem_append_left _ (hi.bd y hy), fun j k' y hj hy hne hs => ?_, ?_, fun j k' x hj hx => ?_, fun j k' y hj hy => ?_, ?_⟩, fun j k' hlt hj => ?_⟩
  · unfold stpL; rw [List.length_set, List.length_map]; exact hi.n
  · rcases stpL_at hj with ⟨rfl, rfl⟩ | ⟨_, k0, h1, rfl⟩
    · exact s.ck
    · exact (hi.ck _ _ h1).wb _
  · rcases List.mem_append.1 hx with hx | hx
    · exact hi.gd x hx
    · exact s.gd x hx
  · rcases stpL_at hj with ⟨rfl, rfl⟩ | ⟨_, k0, h1, rfl⟩
    · rcases s.em y hy hne hs with h2 | h2
      · exact List.mem_append_left _ (hi.em _ _ y hk hy hne h2)
      · exact List.mem_append_right _ h2
    · exact List.mem_append_left _ (hi.em _ _ y h1 hy hne hs)
  · have h1 := stpL_sum (q := (takeP k n).2) hk
    have h2 := s.len
    have h3 := hi.len
    rw [List.length_append]
    omega
  · rcases stpL_at hj with ⟨rfl, rfl⟩ | ⟨_, k0, h1, rfl⟩
    · exact s.keep _ (hi.eff _ _ _ hk (htk x hx))
    · exact (hi.eff _ _ _ h1 (htk x hx)).wb _
  · have hB : inB (takeP k n).2 (chBytes (kc b y 1)) := s.inb _ (hi.inb _ _ y hk hy)
    rcases stpL_at hj with ⟨rfl, rfl⟩ | ⟨_, k0, h1, rfl⟩
    · exact hB
    · exact hB
  · rw [List.length_append]; exact Nat.le_trans hi.il (Nat.le_add_right _ _)
  · rcases stpL_at hj with ⟨rfl, rfl⟩ | ⟨hne, k0, h1, rfl⟩
    · exact s.eff
    · exact (h.ef _ _ (by omega) h1).wb _
theorem MidS.fin (h : MidS b f l said i n m) (hm : l.length ≤ m) (hn : said[i]? = some n) : SI b f l said (i + 1) := by
  have hi := h.si
  have hlt := (List.getElem?_eq_some_iff.1 hn).1
  refine ⟨hi.n, hi.ck, hi.gd, hi.bt, hi.bd, hi.em, hi.len, fun j k x hj hx => ?_, hi.inb, hlt⟩
  rw [List.take_succ_eq_append_getElem hlt, (List.getElem?_eq_some_iff.1 hn).2] at hx
  rcases List.mem_append.1 hx with hx | hx
  · exact hi.eff _ _ _ hj hx
  · rw [List.mem_singleton] at hx
    subst hx
    exact h.ef _ _ (Nat.lt_of_lt_of_le (List.getElem?_eq_some_iff.1 hj).1 hm) hj
theorem SI.mid (h : SI b f l said i) : MidS b f l said i n 0 := ⟨h, fun j k hj => by omega⟩
/-- How many are told at most. -/
theorem SI.few (h : SI b f l said i) (hf : f = 1 ∨ f = 2) : said.length ≤ 60 := by
  have hk : ∀ k ∈ l, (kCh k).length ≤ 7 := fun k hk => by
    obtain ⟨j, hj⟩ := List.getElem?_of_mem hk
    have c := h.ck _ _ hj
    have hs : ∀ x ∈ (kCh k).map fun p : Int × Said => p.1, x ∈ ([1, 2, 3, 4, 5, 6, 7] : List Int) := fun x hx => by
      obtain ⟨s, hs⟩ := @mget_key Int Said (Ty.dec D .int) (kCh k) x hx
      have := (c.ch x s hs).1
      simp only [List.mem_cons, List.not_mem_nil, or_false]
      omega
    obtain ⟨r, hr⟩ := sub_perm (f := Int.toNat) (a := (kCh k).map fun p : Int × Said => p.1) (by
      have hp : ∀ x ∈ (kCh k).map fun p : Int × Said => p.1, 1 ≤ x := fun x hx => by
        have := hs x hx
        simp only [List.mem_cons, List.not_mem_nil, or_false] at this
        omega
      refine List.pairwise_map.2 (List.Pairwise.imp_of_mem (fun {a b} ha hb hab => ?_) c.nd)
      have := hp a ha; have := hp b hb
      omega) hs
    have := hr.length_eq
    rw [List.length_append, List.length_map] at this
    simp at this
    omega
  have hsum : ∀ (l : List KD), (∀ k ∈ l, (kCh k).length ≤ 7) → (l.map fun k => (kCh k).length).sum ≤ 7 * l.length := by
    intro l
    induction l with
    | nil => intro _; simp
    | cons k l ih =>
      intro hk
      have h1 := hk k List.mem_cons_self
      have h2 := ih fun k hk' => hk k (List.mem_cons_of_mem _ hk')
      simp only [List.map_cons, List.sum_cons, List.length_cons]
      omega
  have h1 := hsum l hk
  have h2 := h.len
  have h3 := h.n
  omega
/-- Where all begin. -/
theorem SI.start (hn : (l.length : Int) = 2 * f + 1) (hl : ∀ (j : Nat) (k : KD), l[j]? = some k → Fct f (ndI j) [(ndI j, dgS (kc b (ndI j) (ndI j))), (1, dgS (kc b (ndI j) 1))] [] k) (hg : ∀ n ∈ said, Gd b f n) (h1 : ∀ y, In f y → tells (kc b y y) ∈ said) (h2 : ∀ y, In f y → ackW y (kc b y 1) ∈ said)
    (h3 : said.length ≤ 2 * l.length) (hi : ∀ (j : Nat) (k : KD) (y : Int), l[j]? = some k → In f y → inB k (chBytes (kc b y 1))) : SI b f l said 0 := by
  have hsum : ∀ (l : List KD), (∀ k ∈ l, (kCh k).length = 2) → (l.map fun k => (kCh k).length).sum = 2 * l.length := by
    intro l
    induction l with
    | nil => intro _; rfl
    | cons k l ih =>
      intro hk
      have h1 := hk k List.mem_cons_self
      have h2 := ih fun k hk' => hk k (List.mem_cons_of_mem _ hk')
      simp only [List.map_cons, List.sum_cons, List.length_cons]
      omega
  have hat : ∀ (j : Nat) (k : KD), l[j]? = some k → ∀ n, sdO (kCh k) n = if ndI j = n then some (dgS (kc b (ndI j) (ndI j))) else if 1 = n then some (dgS (kc b (ndI j) 1)) else none := fun j k hj n => by
    rw [(hl j k hj).ch]; rfl
  refine ⟨hn, fun j k hj => ?_, hg, h1, h2, fun j k y hj hy hne hs => ?_, ?_, fun j k n _ hx => by simp at hx, hi, Nat.zero_le _⟩
  · have F := hl j k hj
    have e := ndI_eq j
    have hj1 : ndI j ≠ 1 := by omega
    have hin : In f (ndI j) := by have := (List.getElem?_eq_some_iff.1 hj).1; exact ⟨by omega, by omega⟩
    refine ⟨F.hd, by rw [F.ch]; exact List.pairwise_cons.2 ⟨fun y hy => by rw [List.map_cons, List.map_nil, List.mem_singleton] at hy; rw [hy]; exact hj1, List.pairwise_singleton _ _⟩, fun n s hs => ?_, by rw [hat j k hj, if_neg hj1]; rfl, by rw [hat j k hj, if_pos rfl]; rfl, fun y z a ha => by rw [F.ak] at ha; cases ha⟩
    rw [hat j k hj] at hs
    by_cases e : ndI j = n
    · rw [if_pos e] at hs; subst e; exact ⟨.inr hin, (Option.some.inj hs).symm⟩
    · rw [if_neg e] at hs
      by_cases e2 : 1 = n
      · rw [if_pos e2] at hs; subst e2; exact ⟨.inl rfl, (Option.some.inj hs).symm⟩
      · rw [if_neg e2] at hs; cases hs
  · rw [hat j k hj, if_neg (fun e => hne e.symm), if_neg (by omega)] at hs; cases hs
  · rw [hsum l fun k hk => by
      obtain ⟨j, hj⟩ := List.getElem?_of_mem hk
      rw [(hl j k hj).ch]; rfl]
    exact h3
/-! ### at the end -/
/-- All was heard by all. -/
structure FI (b : Int → UInt8) (f : Int) (l : List KD) : Prop where
  n : (l.length : Int) = 2 * f + 1
  ck : ∀ (j : Nat) (k : KD), l[j]? = some k → CK b f (ndI j) k
  sd_ : ∀ (j : Nat) (k : KD) (y : Int), l[j]? = some k → In f y → sdO (kCh k) y = some (dgS (kc b (ndI j) y))
  ak : ∀ (j : Nat) (k : KD) (y z : Int), l[j]? = some k → In f y → y ≠ ndI j → (z = 1 ∨ In f z) → y ≠ z → akO (kAk k) ⟨y, z⟩ = some ⟨3, dgC (kc b y z)⟩
  inb : ∀ (j : Nat) (k : KD) (y : Int), l[j]? = some k → In f y → inB k (chBytes (kc b y 1))
theorem some_of {α : Type} {o : Option α} (h : o.isSome = true) : ∃ x, o = some x := by cases o with | none => cases h | some x => exact ⟨x, rfl⟩
theorem SI.done (h : SI b f l said i) (hi : said.length ≤ i) : FI b f l := by
  have ef : ∀ (j : Nat) (k : KD) (n : Note), l[j]? = some k → n ∈ said → Eff b f (ndI j) n k := fun j k n hj hn => h.eff j k n hj (by rw [List.take_of_length_le hi]; exact hn)
  have s1 : ∀ (j : Nat) (k : KD) (y : Int), l[j]? = some k → In f y → (sdO (kCh k) y).isSome = true := fun j k y hj hy => (ef j k _ hj (h.bt y hy)).t y hy rfl
  refine ⟨h.n, h.ck, fun j k y hj hy => ?_, fun j k y z hj hy hne hz hyz => ?_, h.inb⟩
  · obtain ⟨s, hs⟩ := some_of (s1 j k y hj hy)
    rw [hs, ((h.ck j k hj).ch y s hs).2]
  · have hm : ackW y (kc b y z) ∈ said := by
      rcases hz with rfl | hz
      · exact h.bd y hy
      · have hlt : (y - 2).toNat < l.length := by have := h.n; omega
        have hk : l[(y - 2).toNat]? = some l[(y - 2).toNat] := List.getElem?_eq_getElem hlt
        have e : ndI (y - 2).toNat = y := by rw [ndI_eq]; omega
        have := h.em _ _ z hk hz (by rw [e]; exact fun e => hyz e.symm) (s1 _ _ z hk hz)
        rwa [e] at this
    obtain ⟨a, ha⟩ := some_of ((ef j k _ hj hm).a y z hy hne hz hyz rfl)
    rw [ha, ((h.ck j k hj).ak y z a ha).2.2.2]
/-- The book turns, nothing else. -/
theorem FI.ink (h : FI b f l) {l' : List KD} (hl : l'.length = l.length) (q : KD) (hq : ∀ c, (∀ (j : Nat) (k : KD), l[j]? = some k → inB k c) → inB q c) (hw : ∀ (j : Nat) (k' : KD), l'[j]? = some k' → ∃ k, l[j]? = some k ∧ k' = wb k q) : FI b f l' := by
  refine ⟨by rw [hl]; exact h.n, fun j k' hj => ?_, fun j k' y hj hy => ?_, fun j k' y z hj => ?_, fun j k' y hj hy => ?_⟩
  · obtain ⟨k, h1, rfl⟩ := hw j k' hj; exact (h.ck j k h1).wb q
  · obtain ⟨k, h1, rfl⟩ := hw j k' hj; exact h.sd_ j k y h1 hy
  · obtain ⟨k, h1, rfl⟩ := hw j k' hj; exact h.ak j k y z h1
  · have hB : inB q (chBytes (kc b y 1)) := hq _ fun j k h1 => h.inb j k y h1 hy
    obtain ⟨k, h1, rfl⟩ := hw j k' hj
    exact hB
end
end Go.Proofs.YtpbcabanpppfoaaGreat

namespace Go.Proofs.YtpbcabanpppfoaaGreat
open Go Go.Gx Go.Vz
set_option maxRecDepth 100000
theorem countP_more {α : Type} [DecidableEq α] {p q : α → Bool} {l : List α} {s : α} (hl : ∀ x ∈ l, p x = true → q x = true) (hs : s ∈ l) (h1 : p s = false) (h2 : q s = true) : l.countP p + 1 ≤ l.countP q := by
  induction l with
  | nil => cases hs
  | cons a l ih =>
    rw [List.countP_cons, List.countP_cons]
    by_cases e : s = a
    · subst e
      have := List.countP_mono_left (p := p) (q := q) (l := l) fun x hx hp => hl x (List.mem_cons_of_mem _ hx) hp
      rw [h1, h2]
      simp; omega
    · have h3 := ih (fun x hx => hl x (List.mem_cons_of_mem _ hx)) ((List.mem_cons.1 hs).resolve_left e)
      have h4 := hl a List.mem_cons_self
      cases ha : p a with
      | true => rw [h4 ha]; simp; omega
      | false => cases q a <;> simp <;> omega
/-- So many others there are. -/
theorem cnt_oth {f y s : Int} (hf : f = 1 ∨ f = 2) (hy : In f y) (hs : In f s) (hn : y ≠ s) : 2 * f - 1 ≤ ((othS (crewS f) y).countP fun x => decide (2 ≤ x ∧ x ≤ 2 * f + 2 ∧ x ≠ y ∧ x ≠ s) : Nat) := by
  rcases hf with rfl | rfl
  · have h1 : y = 2 ∨ y = 3 ∨ y = 4 := by omega
    have h2 : s = 2 ∨ s = 3 ∨ s = 4 := by omega
    rcases h1 with rfl | rfl | rfl <;> rcases h2 with rfl | rfl | rfl <;> first | (exact absurd rfl hn) | decide
  · have h1 : y = 2 ∨ y = 3 ∨ y = 4 ∨ y = 5 ∨ y = 6 := by omega
    have h2 : s = 2 ∨ s = 3 ∨ s = 4 ∨ s = 5 ∨ s = 6 := by omega
    rcases h1 with rfl | rfl | rfl | rfl | rfl <;> rcases h2 with rfl | rfl | rfl | rfl | rfl <;> first | (exact absurd rfl hn) | decide
section
variable {b : Int → UInt8} {f : Int} {l : List KD} {k : KD} {j : Nat}
theorem akG_some {ak : List (Pair × Ack)} {p : Pair} {a : Ack} (h : akO ak p = some a) : akG ak p = a := congrArg (fun o : Option Ack => o.getD ack0) h
theorem akG_none {ak : List (Pair × Ack)} {p : Pair} (h : akO ak p = none) : akG ak p = ack0 := congrArg (fun o : Option Ack => o.getD ack0) h
theorem rdyN_f (h : CK b f (ndI j) k) (hf : f = 1 ∨ f = 2) : rdyN k = 2 * f - 1 := by
  unfold rdyN
  rw [h.fct.cr]
  rcases hf with rfl | rfl <;> rfl
theorem FI.in_ (h : FI b f l) (hj : l[j]? = some k) : In f (ndI j) := by
  have := (List.getElem?_eq_some_iff.1 hj).1
  have := h.n
  have := ndI_eq j
  exact ⟨by omega, by omega⟩
/-- Each correct one is ready. -/
theorem FI.ready (h : FI b f l) (hf : f = 1 ∨ f = 2) (hj : l[j]? = some k) {y : Int} (hy : In f y) : rdyB k 3 y = true := by
  have c := h.ck j k hj
  have hs : sd (kCh k) y = dgS (kc b (ndI j) y) := by unfold sd; rw [h.sd_ j k y hj hy]; rfl
  unfold rdyB
  rw [hs, c.fct.sf]
  show (bif (3 : Int) == 3 then (bif y == ndI j then true else decide (rdyN k ≤ (hrN k (dgS (kc b (ndI j) y)) (ndI j) : Int))) else false) = true
  simp only [BEq.rfl, cond_true]
  by_cases e : y = ndI j
  · rw [show (y == ndI j) = true by simpa using e]; rfl
  · rw [show (y == ndI j) = false by simpa using e, cond_false, rdyN_f c hf]
    apply decide_eq_true
    refine Int.le_trans (cnt_oth hf hy (h.in_ hj) e) ?_
    have : (othS (crewS f) y).countP (fun x => decide (2 ≤ x ∧ x ≤ 2 * f + 2 ∧ x ≠ y ∧ x ≠ ndI j)) ≤ hrN k (dgS (kc b (ndI j) y)) (ndI j) := by
      unfold hrN
      rw [c.fct.cr]
      refine List.countP_mono_left fun x _ hx => ?_
      have hx := of_decide_eq_true hx
      have ha := h.ak j k x y hj ⟨hx.1, hx.2.1⟩ hx.2.2.2 (.inr hy) hx.2.2.1
      refine hrB_y hx.2.2.2 (by rw [c.fct.sf]; exact hx.2.2.2) ?_
      refine (akG_some ha).trans ?_
      show (⟨3, dgC (kc b x y)⟩ : Ack) = ⟨3, dgC (kc b (ndI j) y)⟩
      rw [show kc b x y = kc b (ndI j) y by show says y 3 (kb b x y) = says y 3 (kb b (ndI j) y); rw [kb_2 (by omega), kb_2 (by omega)]]
    omega
theorem FI.many (h : FI b f l) (hf : f = 1 ∨ f = 2) (hj : l[j]? = some k) : l.length ≤ (rdyL k 3 (rdyK k)).length := by
  unfold rdyL
  rw [List.length_map]
  have hin : ∀ {y : Int}, In f y → y ∈ (rdyK k).filter (rdyB k 3) := fun {y} hy => by
    refine List.mem_filter.2 ⟨(isort_perm _).mem_iff.2 ?_, h.ready hf hj hy⟩
    exact List.mem_map.2 ⟨(y, dgS (kc b (ndI j) y)), sdO_mem (h.sd_ j k y hj hy), rfl⟩
  have hn := h.n
  rcases hf with rfl | rfl
  · obtain ⟨r, hr⟩ := sub_perm (f := Int.toNat) (a := ([2, 3, 4] : List Int)) (b := (rdyK k).filter (rdyB k 3)) (by decide) (fun x hx => hin (by simp only [List.mem_cons, List.not_mem_nil, or_false] at hx; omega))
    have := hr.length_eq
    rw [List.length_append] at this
    simp only [List.length_cons, List.length_nil] at this
    omega
  · obtain ⟨r, hr⟩ := sub_perm (f := Int.toNat) (a := ([2, 3, 4, 5, 6] : List Int)) (b := (rdyK k).filter (rdyB k 3)) (by decide) (fun x hx => hin (by simp only [List.mem_cons, List.not_mem_nil, or_false] at hx; omega))
    have := hr.length_eq
    rw [List.length_append] at this
    simp only [List.length_cons, List.length_nil] at this
    omega
/-- What is ready. -/
theorem FI.what (h : FI b f l) (hj : l[j]? = some k) {c : Change} (hc : c ∈ rdyL k 3 (rdyK k)) : ∃ x, (x = 1 ∨ In f x) ∧ c = kc b (ndI j) x ∧ rdyB k 3 x = true := by
  unfold rdyL at hc
  obtain ⟨x, hx, rfl⟩ := List.mem_map.1 hc
  obtain ⟨hx, hr⟩ := List.mem_filter.1 hx
  obtain ⟨s, hs⟩ := @mget_key Int Said (Ty.dec D .int) (kCh k) x ((isort_perm _).mem_iff.1 hx)
  have hs : sdO (kCh k) x = some s := hs
  obtain ⟨h1, rfl⟩ := (h.ck j k hj).ch x s hs
  refine ⟨x, h1, ?_, hr⟩
  unfold sd; rw [hs]; rfl
theorem vch_same {c : Change} (h : sdO (kCh k) c.node = some (dgS c)) : vchB k c = true := by
  unfold vchB sd
  rw [h]
  show (bif dq (α := Change) c c then true else _) = true
  unfold dq; simp
/-- It is vouched for, or two unlike inputs have one digest. -/
theorem FI.vouch (h : FI b f l) (hf : f = 1 ∨ f = 2) (hj : l[j]? = some k) {c : Change} (hc : c ∈ rdyL k 3 (rdyK k)) {i : Nat} {q : KD} (hi : l[i]? = some q) : vchB q c = true ∨ kMo (kInk q (chBytes c)) ≠ [] := by
  obtain ⟨x, hx, rfl, hr⟩ := h.what hj hc
  have ck := h.ck j k hj
  have cq := h.ck i q hi
  rcases hx with rfl | hx
  · by_cases e1 : b (ndI i) = b (ndI j)
    · left
      obtain ⟨s, hs⟩ := some_of cq.one
      have := (cq.ch 1 s hs).2
      refine vch_same ?_
      show sdO (kCh q) 1 = _
      rw [hs, this]
      show some (dgS (says 1 3 (b (ndI i)))) = some (dgS (says 1 3 (b (ndI j))))
      rw [e1]
    · by_cases e2 : dgC (kc b (ndI i) 1) = dgC (kc b (ndI j) 1)
      · right
        refine inB_two (inB_keep (h.inb i q (ndI i) hi (h.in_ hi)) _) (inB_ink q _) e2 fun e => e1 ?_
        exact w_inj e
      · left
        have hs1 : sd (kCh k) 1 = dgS (kc b (ndI j) 1) := by
          obtain ⟨s, hs⟩ := some_of ck.one
          have := (ck.ch 1 s hs).2
          unfold sd; rw [hs, this]; rfl
        have j1 : (1 : Int) ≠ ndI j := by have := ndI_eq j; omega
        unfold rdyB at hr
        rw [hs1, ck.fct.sf] at hr
        have hr : (bif (3 : Int) == 3 then (bif (1 : Int) == ndI j then true else decide (rdyN k ≤ (hrN k (dgS (kc b (ndI j) 1)) (ndI j) : Int))) else false) = true := hr
        simp only [BEq.rfl, cond_true] at hr
        rw [show ((1 : Int) == ndI j) = false by simpa using j1, cond_false, rdyN_f ck hf] at hr
        have hr := of_decide_eq_true hr
        have hq1 : sdO (kCh q) 1 = some (dgS (kc b (ndI i) 1)) := by
          obtain ⟨s, hs⟩ := some_of cq.one
          rw [hs, (cq.ch 1 s hs).2]
        have hdq : (bif (sdO (kCh q) 1).isSome then dq (α := Change) (sd (kCh q) 1).change (kc b (ndI j) 1) else false) = false := by
          unfold sd
          rw [hq1]
          show dq (α := Change) (kc b (ndI i) 1) (kc b (ndI j) 1) = false
          unfold dq
          rw [decide_eq_false_iff_not]
          intro e
          exact e1 (says_inj e).2.2
        show (bif (bif (sdO (kCh q) 1).isSome then dq (α := Change) (sd (kCh q) 1).change (kc b (ndI j) 1) else false) then true else decide (someN (kCr q) ≤ (hrN q (dgS (kc b (ndI j) 1)) 0 : Int))) = true
        rw [hdq, cond_false, cq.fct.cr]
        have hN : someN (crewS f) = f + 1 := by rcases hf with rfl | rfl <;> rfl
        rw [hN]
        apply decide_eq_true
        have hmem : ndI j ∈ othS (crewS f) 1 := by
          have := h.in_ hj
          rcases hf with rfl | rfl
          · show ndI j ∈ ([2, 3, 4] : List Int)
            simp only [List.mem_cons, List.not_mem_nil, or_false]; omega
          · show ndI j ∈ ([2, 3, 4, 5, 6, 7] : List Int)
            simp only [List.mem_cons, List.not_mem_nil, or_false]; omega
        have g1 : hrN k (dgS (kc b (ndI j) 1)) (ndI j) + 1 ≤ hrN q (dgS (kc b (ndI j) 1)) 0 := by
          unfold hrN
          rw [ck.fct.cr, cq.fct.cr]
          have tr : ∀ x, In f x → x ≠ ndI i → dgC (kc b x 1) = dgC (kc b (ndI j) 1) → hrB q (dgS (kc b (ndI j) 1)) 0 x = true := fun x hx hne hd => by
            have ha := h.ak i q x 1 hi hx hne (.inl rfl) (by omega)
            refine hrB_y (by omega) (by rw [cq.fct.sf]; exact hne) ?_
            refine (akG_some ha).trans ?_
            show (⟨3, dgC (kc b x 1)⟩ : Ack) = ⟨3, dgC (kc b (ndI j) 1)⟩
            rw [hd]
          refine countP_more (s := ndI j) (fun x _ hp => ?_) hmem ?_ (tr _ (h.in_ hj) (fun e => e1 (by rw [e])) rfl)
          · have hp : (bif x == ndI j then false else bif x == kSf k then (bif (sdO (kCh k) 1).isSome then dq (α := Change) (sd (kCh k) 1).change (kc b (ndI j) 1) else false) else (akG (kAk k) ⟨x, 1⟩).view == 3 && (decide ((akG (kAk k) ⟨x, 1⟩).dig = dgC (kc b (ndI j) 1)) && true)) = true := hp
            rw [ck.fct.sf] at hp
            by_cases ej : x = ndI j
            · rw [show (x == ndI j) = true by simpa using ej] at hp; cases hp
            · rw [show (x == ndI j) = false by simpa using ej, cond_false, cond_false, Bool.and_true, Bool.and_eq_true] at hp
              obtain ⟨p1, p2⟩ := hp
              have p2 := of_decide_eq_true p2
              cases ho : akO (kAk k) ⟨x, 1⟩ with
              | none =>
                rw [akG_none ho] at p1
                exact absurd p1 (by decide)
              | some a =>
                obtain ⟨a1, -, -, a2⟩ := ck.ak x 1 a ho
                rw [akG_some ho, a2] at p2
                have p2 : dgC (kc b x 1) = dgC (kc b (ndI j) 1) := p2
                exact tr x a1 (fun e => e2 (by rw [← e]; exact p2)) p2
          · unfold hrB; rw [show (ndI j == ndI j) = true by simp]; rfl
        omega
  · left
    refine vch_same ?_
    show sdO (kCh q) x = _
    rw [h.sd_ i q x hi hx]
    show some (dgS (says x 3 (kb b (ndI i) x))) = some (dgS (says x 3 (kb b (ndI j) x)))
    rw [kb_2 (by omega), kb_2 (by omega)]
end
end Go.Proofs.YtpbcabanpppfoaaGreat

namespace Go.Proofs.YtpbcabanpppfoaaGreat
open Go Go.Gx Go.Vz
set_option maxRecDepth 100000
/-- What the liar tells a node. -/
def bL (l : List UInt8) (x : Int) : UInt8 := UInt8.ofNat (bitK .and .u8 ((lie l (x - 2).toNat).toNat : Int) 1).toNat
abbrev QS3 : List ES := [.box 107 [.nm 1, .nm 2, .dat .int], .map .dig .str, .map .str .bool, .box 93 [.nm 0, .dat (.st 0), .dat .int, .dat .int, .dat .int, .nm 4, .nm 5], .map .int (.st 8), .map (.st 10) (.st 9), .box 93 [.nm 0, .dat (.st 0), .dat .int, .dat .int, .dat .int, .nm 7, .nm 8], .map .int (.st 8), .map (.st 10) (.st 9), .box 93 [.nm 0, .dat (.st 0), .dat .int, .dat .int, .dat .int, .nm 10, .nm 11], .map .int (.st 8), .map (.st 10) (.st 9)]
abbrev eQ3 : List Nat := [0, 1, 2, 6, 7, 8, 29, 30, 31, 52, 53, 54]
abbrev lQ3 (e : EL D QS3) : List KD := [(e.2.2.2.1, e.1, e.2.2.2.2.1, e.2.2.2.2.2.1, e.2.1, e.2.2.1, ()), (e.2.2.2.2.2.2.1, e.1, e.2.2.2.2.2.2.2.1, e.2.2.2.2.2.2.2.2.1, e.2.1, e.2.2.1, ()), (e.2.2.2.2.2.2.2.2.2.1, e.1, e.2.2.2.2.2.2.2.2.2.2.1, e.2.2.2.2.2.2.2.2.2.2.2.1, e.2.1, e.2.2.1, ())]
def da3_h (b : Int → UInt8) : LH D := ⟨EL D QS3 × List Note × Nat, [9, 17], fun i => [.own 0, iv (i.2.2 : Int)], fun i => SI b 1 (lQ3 i.1) i.2.1 i.2.2 ∧ i.2.2 ≤ 200, fun i => 200 - i.2.2, [(.sl 9, .st 7, 46)], fun i => [.arr (.st 7) 46 i.2.1], eQ3, fun i => opnEs EF QS3 eQ3 QS3 i.1⟩
def db3_h (b : Int → UInt8) (r : List Change) : LH D := ⟨EL D QS3 × Nat, [23], fun i => [iv (i.2 : Int)], fun i => i.2 ≤ r.length ∧ FI b 1 (lQ3 i.1) ∧ ∀ c ∈ r, ∃ (j : Nat) (k : KD), (lQ3 i.1)[j]? = some k ∧ c ∈ rdyL k 3 (rdyK k), fun i => r.length - i.2, [], fun _ => [], eQ3, fun i => opnEs EF QS3 eQ3 QS3 i.1⟩
def cwH3 (a : HL D (cw_p 0).ts) : Nat → Nat → Option (Hint D) := fun f r => match f, r with
  | 6, 7 => some (.unr 6)
  | 6, 16 => some (.dep fun s => .joi (cj_h (lie a.2.1 (slI s 10 - 2).toNat)))
  | 6, 23 => some (.inv (da3_h (bL a.2.1)))
  | 6, 26 => some (.unr 6)
  | 6, 30 => some (.dep fun s => .joi (cs_h (owL (.st 7) s 9 ++ (bif slI s 20 == 0 then slL (.st 7) s 19 else []))))
  | 6, 32 => some (.unr 6)
  | 6, 38 => some (.dep fun s => .inv (db3_h (bL a.2.1) (slL (.st 3) s 22)))
  | 6, 41 => some (.unr 6)
  | _, _ => none
theorem at3 {k0 k1 k2 : KD} {Q : Nat → KD → Prop} (h0 : Q 0 k0) (h1 : Q 1 k1) (h2 : Q 2 k2) : ∀ (j : Nat) (k : KD), [k0, k1, k2][j]? = some k → Q j k := by
  intro j k hj
  match j, hj with
  | 0, hj => exact (Option.some.inj hj) ▸ h0
  | 1, hj => exact (Option.some.inj hj) ▸ h1
  | 2, hj => exact (Option.some.inj hj) ▸ h2
  | j + 3, hj => simp at hj
theorem ath3 {k0 k1 k2 : KD} {Q : Nat → KD → Prop} {j : Nat} {k : KD} (hj : [k0, k1, k2][j]? = some k) (h0 : Q 0 k0) (h1 : Q 1 k1) (h2 : Q 2 k2) : Q j k := at3 (Q := Q) h0 h1 h2 j k hj
abbrev QS5 : List ES := [.box 107 [.nm 1, .nm 2, .dat .int], .map .dig .str, .map .str .bool, .box 93 [.nm 0, .dat (.st 0), .dat .int, .dat .int, .dat .int, .nm 4, .nm 5], .map .int (.st 8), .map (.st 10) (.st 9), .box 93 [.nm 0, .dat (.st 0), .dat .int, .dat .int, .dat .int, .nm 7, .nm 8], .map .int (.st 8), .map (.st 10) (.st 9), .box 93 [.nm 0, .dat (.st 0), .dat .int, .dat .int, .dat .int, .nm 10, .nm 11], .map .int (.st 8), .map (.st 10) (.st 9), .box 93 [.nm 0, .dat (.st 0), .dat .int, .dat .int, .dat .int, .nm 13, .nm 14], .map .int (.st 8), .map (.st 10) (.st 9), .box 93 [.nm 0, .dat (.st 0), .dat .int, .dat .int, .dat .int, .nm 16, .nm 17], .map .int (.st 8), .map (.st 10) (.st 9)]
abbrev eQ5 : List Nat := [0, 1, 2, 6, 7, 8, 29, 30, 31, 52, 53, 54, 75, 76, 77, 98, 99, 100]
abbrev lQ5 (e : EL D QS5) : List KD := [(e.2.2.2.1, e.1, e.2.2.2.2.1, e.2.2.2.2.2.1, e.2.1, e.2.2.1, ()), (e.2.2.2.2.2.2.1, e.1, e.2.2.2.2.2.2.2.1, e.2.2.2.2.2.2.2.2.1, e.2.1, e.2.2.1, ()), (e.2.2.2.2.2.2.2.2.2.1, e.1, e.2.2.2.2.2.2.2.2.2.2.1, e.2.2.2.2.2.2.2.2.2.2.2.1, e.2.1, e.2.2.1, ()), (e.2.2.2.2.2.2.2.2.2.2.2.2.1, e.1, e.2.2.2.2.2.2.2.2.2.2.2.2.2.1, e.2.2.2.2.2.2.2.2.2.2.2.2.2.2.1, e.2.1, e.2.2.1, ()), (e.2.2.2.2.2.2.2.2.2.2.2.2.2.2.2.1, e.1, e.2.2.2.2.2.2.2.2.2.2.2.2.2.2.2.2.1, e.2.2.2.2.2.2.2.2.2.2.2.2.2.2.2.2.2.1, e.2.1, e.2.2.1, ())]
def da5_h (b : Int → UInt8) : LH D := ⟨EL D QS5 × List Note × Nat, [9, 17], fun i => [.own 0, iv (i.2.2 : Int)], fun i => SI b 2 (lQ5 i.1) i.2.1 i.2.2 ∧ i.2.2 ≤ 200, fun i => 200 - i.2.2, [(.sl 9, .st 7, 46)], fun i => [.arr (.st 7) 46 i.2.1], eQ5, fun i => opnEs EF QS5 eQ5 QS5 i.1⟩
def db5_h (b : Int → UInt8) (r : List Change) : LH D := ⟨EL D QS5 × Nat, [23], fun i => [iv (i.2 : Int)], fun i => i.2 ≤ r.length ∧ FI b 2 (lQ5 i.1) ∧ ∀ c ∈ r, ∃ (j : Nat) (k : KD), (lQ5 i.1)[j]? = some k ∧ c ∈ rdyL k 3 (rdyK k), fun i => r.length - i.2, [], fun _ => [], eQ5, fun i => opnEs EF QS5 eQ5 QS5 i.1⟩
def cwH5 (a : HL D (cw_p 1).ts) : Nat → Nat → Option (Hint D) := fun f r => match f, r with
  | 6, 7 => some (.unr 6)
  | 6, 16 => some (.dep fun s => .joi (cj_h (lie a.2.1 (slI s 10 - 2).toNat)))
  | 6, 23 => some (.inv (da5_h (bL a.2.1)))
  | 6, 26 => some (.unr 6)
  | 6, 30 => some (.dep fun s => .joi (cs_h (owL (.st 7) s 9 ++ (bif slI s 20 == 0 then slL (.st 7) s 19 else []))))
  | 6, 32 => some (.unr 6)
  | 6, 38 => some (.dep fun s => .inv (db5_h (bL a.2.1) (slL (.st 3) s 22)))
  | 6, 41 => some (.unr 6)
  | _, _ => none
theorem at5 {k0 k1 k2 k3 k4 : KD} {Q : Nat → KD → Prop} (h0 : Q 0 k0) (h1 : Q 1 k1) (h2 : Q 2 k2) (h3 : Q 3 k3) (h4 : Q 4 k4) : ∀ (j : Nat) (k : KD), [k0, k1, k2, k3, k4][j]? = some k → Q j k := by
  intro j k hj
  match j, hj with
  | 0, hj => exact (Option.some.inj hj) ▸ h0
  | 1, hj => exact (Option.some.inj hj) ▸ h1
  | 2, hj => exact (Option.some.inj hj) ▸ h2
  | 3, hj => exact (Option.some.inj hj) ▸ h3
  | 4, hj => exact (Option.some.inj hj) ▸ h4
  | j + 5, hj => simp at hj
theorem ath5 {k0 k1 k2 k3 k4 : KD} {Q : Nat → KD → Prop} {j : Nat} {k : KD} (hj : [k0, k1, k2, k3, k4][j]? = some k) (h0 : Q 0 k0) (h1 : Q 1 k1) (h2 : Q 2 k2) (h3 : Q 3 k3) (h4 : Q 4 k4) : Q j k := at5 (Q := Q) h0 h1 h2 h3 h4 j k hj
end Go.Proofs.YtpbcabanpppfoaaGreat
