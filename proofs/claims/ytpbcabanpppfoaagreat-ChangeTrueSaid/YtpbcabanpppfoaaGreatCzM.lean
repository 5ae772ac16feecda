/- Change: the council's functions, walked by reckoning (what looks). No condition. -/
import Derived.Test.YtpbcabanpppfoaaGreatVzLook
set_option linter.all false
namespace Go.Proofs.YtpbcabanpppfoaaGreat
open Go Go.Gx Go.Vz
set_option maxRecDepth 100000
def said0 : Said := ⟨⟨0, 0, 0, [], [], []⟩, Dig.zero⟩
def ack0 : Ack := ⟨0, Dig.zero⟩
abbrev kCr (k : KD) : Crew := k.1.1
abbrev kSf (k : KD) : Int := k.1.2.1
abbrev kGr (k : KD) : Int := k.1.2.2.1
abbrev kEp (k : KD) : Int := k.1.2.2.2.1
abbrev kCh (k : KD) : List (Int × Said) := k.2.2.1
abbrev kAk (k : KD) : List (Pair × Ack) := k.2.2.2.1
abbrev kSn (k : KD) : List (Dig × List UInt8) := k.2.2.2.2.1
abbrev kMo (k : KD) : List (List UInt8 × Bool) := k.2.2.2.2.2.1
abbrev kAks (k : KD) (l : List (Pair × Ack)) : KD := (k.1, k.2.1, k.2.2.1, l, k.2.2.2.2)
abbrev kChs (k : KD) (l : List (Int × Said)) : KD := (k.1, k.2.1, l, k.2.2.2)
abbrev kInk (k : KD) (b : List UInt8) : KD := (k.1, (IntKind.wrap .i64 (k.2.1.1 + 1), ()), k.2.2.1, k.2.2.2.1, bkS b (kSn k), bkM b (kSn k) (kMo k), ())
abbrev sdO (l : List (Int × Said)) (x : Int) : Option Said := mgetT (E := D) .int (.st 8) l x
abbrev sd (l : List (Int × Said)) (x : Int) : Said := (sdO l x).getD said0
abbrev akG (l : List (Pair × Ack)) (p : Pair) : Ack := (mgetT (E := D) (.st 10) (.st 9) l p).getD ack0
abbrev okC (c : Change) : Prop := c.marks.length ≤ 1000000 ∧ c.p.length ≤ 1000000 ∧ c.q.length ≤ 1000000
def someN (c : Crew) : Int := (some_p (c, ())).1
/-- What is so of each council. -/
structure okK (k : KD) : Prop where
  nodes : (kCr k).nodes.length ≤ 1000000
  s1 : 1 ≤ someN (kCr k)
  s2 : someN (kCr k) ≤ 1000000
  len : (kCh k).length ≤ 1000
  ch : ∀ p ∈ kCh k, okC p.2.change ∧ -1000000 ≤ p.1 ∧ p.1 ≤ 1000000
theorem sdO_mem {l : List (Int × Said)} {x : Int} {y : Said} (h : sdO l x = some y) : (x, y) ∈ l := by
  replace h : @mget Int (Ty.dec D .int) Said l x = some y := h
  induction l with
  | nil => cases h
  | cons p r ih =>
    unfold mget at h
    by_cases e : p.1 = x
    · rw [if_pos e] at h
      have : p = (x, y) := Prod.ext e (Option.some.inj h)
      rw [this]; exact List.mem_cons_self
    · rw [if_neg e] at h; exact List.mem_cons_of_mem _ (ih h)
theorem sd_okC {k : KD} (h : okK k) (x : Int) : okC (sd (kCh k) x).change := by
  unfold sd
  cases e : sdO (kCh k) x with
  | none => exact ⟨by show 0 ≤ _; omega, by show 0 ≤ _; omega, by show 0 ≤ _; omega⟩
  | some y => exact (h.ch _ (sdO_mem e)).1
/-! ### 41 (*Council).hears -/
def hearsP (k : KD) (n : Note) : (Int × Unit) × KD :=
  bif decide (n.view < (akG (kAk k) ⟨n.sender, n.node⟩).view) then ((190, ()), k)
  else bif (bif (akG (kAk k) ⟨n.sender, n.node⟩).view == n.view then !((akG (kAk k) ⟨n.sender, n.node⟩).view == n.view && (decide ((akG (kAk k) ⟨n.sender, n.node⟩).dig = n.dig) && true)) else false) then ((151, ()), k)
  else ((0, ()), kAks k (mputT (E := D) (.st 10) (.st 9) (kAk k) ⟨n.sender, n.node⟩ ⟨n.view, n.dig⟩))
def hears_c : OCon D := { ash := [.nm 0, .dat (.st 7)], es := KS, rsh := [.dat .int], pes := KS, post := fun a k => hearsP k a.1 }
theorem hears_ok : hears_c.ok EF Tryz.prog 41 := OCon.prove (c := hears_c) EF Zk Kk (H := fun _ _ _ _ => none) (n := 1) fun (a : CL D hears_c.ash) (k : KD) (_ : hears_c.holds a k) =>
  both (br_ (fun h1 => hears_c.lf a k (ct h1 (rfl))) (fun h1 => br_ (fun h2 => hears_c.lf a k (cf h1 (ct h2 (rfl)))) (fun h2 => hears_c.lf a k (cf h1 (cf h2 (rfl))))))
/-! ### 42 (*Council).digested -/
def dgd_c : OCon D := { ash := [.nm 0, .dat (.st 3)], es := KS, rsh := [.dat (.st 8), .dat .bool], pes := KS, pre := some (fun a _ => isW a.1), post := fun a k => (((⟨a.1, shaD (chBytes a.1)⟩ : Said), true, ()), kInk k (chBytes a.1)) }
theorem isW_okC {c : Change} (h : isW c) : okC c := by obtain ⟨i, rfl, _⟩ := h; exact ⟨by show 1 ≤ _; omega, by show 0 ≤ _; omega, by show 1 ≤ _; omega⟩
theorem isW_len {c : Change} (h : isW c) : (chBytes c).length ≤ 65536 := by obtain ⟨i, rfl, _⟩ := h; rw [← w_eq]; have := l11 i.1 i.2.1 i.2.2; omega
theorem dgd_ok : dgd_c.ok EF Tryz.prog 42 := OCon.prove (c := dgd_c) EF Zk Kk (H := fun _ _ _ _ => none) (n := 3) fun (a : CL D dgd_c.ash) (k : KD) (hp : dgd_c.holds a k) =>
  have hp : isW a.1 := hp
  have hc := isW_okC hp
  And.intro (Pre.mk (by obtain ⟨i, h1, h2⟩ := hp; exact ⟨i, by rw [h1], h2⟩) : Pre (∃ i : Int × Int × UInt8, (a.1, ()) = (says i.1 i.2.1 i.2.2, ()) ∧ chOk i)) (
  And.intro (Pre.mk (isW_len hp) : Pre ((chBytes a.1).length ≤ 65536)) (
  And.intro (Pre.mk hc.1 : Pre (a.1.marks.length ≤ 1000000)) (
  And.intro (Pre.mk hc.2.1 : Pre (a.1.p.length ≤ 1000000)) (
  And.intro (Pre.mk hc.2.2 : Pre (a.1.q.length ≤ 1000000)) (
  (rfl : some (((⟨a.1, shaD (chBytes a.1)⟩ : Said), true, ()), kInk k (chBytes a.1)) = some (dgd_c.post a k)))))))
/-! ### 24 (*Council).Of -/
def kof_c : OCon D := { ash := [.nm 0, .dat .int], es := KS, rsh := [.dat (.st 3), .dat .bool], pes := KS, pre := some (fun _ k => okK k), post := fun a k => (((sd (kCh k) a.1).change, (sdO (kCh k) a.1).isSome, ()), k) }
theorem kof_ok : kof_c.looks EF Tryz.prog 24 := OCon.proveL (c := kof_c) EF Zk (H := fun _ _ _ _ => none) (call := fun _ _ => calls EF Zk Γk Δc (fun _ _ => none) 3) (fun _ _ => calls_ok Zk Kk 3) fun (a : CL D kof_c.ash) (k : KD) (hp : kof_c.holds a k) =>
  have hc := sd_okC hp a.1
  And.intro (Pre.mk hc.1 : Pre ((sd (kCh k) a.1).change.marks.length ≤ 1000000)) (
  And.intro (Pre.mk hc.2.1 : Pre ((sd (kCh k) a.1).change.p.length ≤ 1000000)) (
  And.intro (Pre.mk hc.2.2 : Pre ((sd (kCh k) a.1).change.q.length ≤ 1000000)) (
  (rfl : some ((sd (kCh k) a.1).change, (sdO (kCh k) a.1).isSome, ()) = some (kof_c.post a k).1))))
/-! ### 25 (*Council).Behind -/
def keysK (k : KD) : List Int := (kCh k).map fun p : Int × Said => p.1
def bhC (k : KD) (v : Int) (xs : List Int) : Nat := xs.countP fun x => decide (v ≤ (sd (kCh k) x).change.view)
def bh_h (k : KD) (v : Int) : LH D := ⟨Nat × List Int, [4], fun i => [iv i.1], fun i => i.1 + bhC k v i.2 = bhC k v (keysK k), fun i => i.2.length, [], fun _ => [], [7], fun i => [.itr 2 2 3 .int i.2]⟩
def bhd_c : OCon D := { ash := [.nm 0, .dat .int], es := KS, rsh := [.dat .int], pes := KS, pre := some (fun _ k => okK k), post := fun a k => (((bhC k a.1 (keysK k) : Nat), ()), k) }
theorem bhC_le {k : KD} (h : okK k) (v : Int) : bhC k v (keysK k) ≤ 1000 := Nat.le_trans List.countP_le_length (by unfold keysK; rw [List.length_map]; exact h.len)
theorem bhC_mid {k : KD} {v x : Int} {l1 l2 : List Int} : bhC k v (l1 ++ x :: l2) = bhC k v (l1 ++ l2) + (bif decide (v ≤ (sd (kCh k) x).change.view) then 1 else 0) := by
  unfold bhC
  rw [List.countP_append, List.countP_cons, List.countP_append]
  cases decide (v ≤ (sd (kCh k) x).change.view) <;> simp <;> omega
theorem bhd_ok : bhd_c.looks EF Tryz.prog 25 := OCon.proveL (c := bhd_c) EF Zk (H := fun a k f r => match f, r with | 25, 4 => some (.inv (bh_h k a.1)) | _, _ => none) (call := fun a k => calls EF Zk Γk Δc (fun f r => match f, r with | 25, 4 => some (.inv (bh_h k a.1)) | _, _ => none) 1) (fun _ _ => calls_ok Zk Kk 1) fun (a : CL D bhd_c.ash) (k : KD) (hp : bhd_c.holds a k) =>
  have hp : okK k := hp
  have hb := bhC_le hp a.1
  And.intro (⟨((0 : Nat), keysK k), rfl, rfl, rfl, Nat.zero_add _⟩ : Ent (bh_h k a.1) [SV.i IntKind.i64 (0 : Int)] [] [HB.itr 2 2 3 .int (keysK k)]) (
  fun (i : Nat × List Int) (hI : i.1 + bhC k a.1 i.2 = bhC k a.1 (keysK k)) =>
  nx (left := i.2) (fun h2 => (by
      rw [h2] at hI
      have : i.1 = bhC k a.1 (keysK k) := by rw [← hI]; rfl
      rw [this]; rfl : some ((i.1 : Int), ()) = some (bhd_c.post a k).1))
    (fun (x : Int) (rest : List Int) hr =>
      bq (decide (a.1 ≤ (sd (kCh k) x).change.view)) (fun h3 => (⟨(i.1 + 1, rest), by
          show [SV.i IntKind.i64 (IntKind.wrap .i64 ((i.1 : Int) + 1))] = [iv ((i.1 + 1 : Nat) : Int)]
          rw [wr1 (by omega)], rfl, rfl, by
          obtain ⟨l1, l2, e1, e2⟩ := hr
          rw [e1, bhC_mid, h3] at hI
          show i.1 + 1 + bhC k a.1 rest = _
          rw [e2, ← hI]; simp only [cond_true]; omega, by
          obtain ⟨l1, l2, e1, e2⟩ := hr
          show rest.length < i.2.length
          rw [e1, e2]; simp⟩ : Rnd (bh_h k a.1) i [SV.i IntKind.i64 (IntKind.wrap .i64 ((i.1 : Int) + 1))] [] [HB.itr 2 2 3 .int rest]))
      (fun h3 => (⟨(i.1, rest), rfl, rfl, rfl, by
          obtain ⟨l1, l2, e1, e2⟩ := hr
          rw [e1, bhC_mid, h3] at hI
          show i.1 + bhC k a.1 rest = _
          rw [e2, ← hI]; simp only [cond_false]; omega, by
          obtain ⟨l1, l2, e1, e2⟩ := hr
          show rest.length < i.2.length
          rw [e1, e2]; simp⟩ : Rnd (bh_h k a.1) i [SV.i IntKind.i64 (i.1 : Int)] [] [HB.itr 2 2 3 .int rest]))))
/-! ### 15 (*Council).Join -/
def jnV (k : KD) (xs : List Int) : List Int := (xs.filter fun x => x != kSf k).map fun x => (sd (kCh k) x).change.view
def jn_h (k : KD) : LH D := ⟨List Int × List Int, [6], fun _ => [.own 0], fun i => (i.1 ++ jnV k i.2).Perm (jnV k (keysK k)), fun i => i.2.length, [(.sl 6, .int, 3)], fun i => [.arr .int 3 i.1], [7], fun i => [.itr 2 2 3 .int i.2]⟩
def jnR (k : KD) : List Int := isort (jnV k (keysK k))
def jnI (k : KD) : Int := ((jnR k).length : Int) - someN (kCr k)
def jnP (k : KD) (v : Int) : Int × Bool × Unit := bif decide (jnI k < 0) then (0, false, ()) else bif decide ((jnR k).getD (jnI k).toNat 0 ≤ v) then (0, false, ()) else ((jnR k).getD (jnI k).toNat 0, true, ())
def jn_c : OCon D := { ash := [.nm 0, .dat .int], es := KS, rsh := [.dat .int, .dat .bool], pes := KS, pre := some (fun _ k => okK k), post := fun a k => (jnP k a.1, k) }
theorem jnV_le {k : KD} (h : okK k) : (jnV k (keysK k)).length ≤ 1000 := by
  unfold jnV; rw [List.length_map]
  exact Nat.le_trans (List.length_filter_le _ _) (by unfold keysK; rw [List.length_map]; exact h.len)
theorem jnV_mid {k : KD} {x : Int} {l1 l2 : List Int} : jnV k (l1 ++ x :: l2) = jnV k l1 ++ ((bif x != kSf k then [(sd (kCh k) x).change.view] else []) ++ jnV k l2) := by
  unfold jnV
  rw [List.filter_append, List.filter_cons, List.map_append]
  cases x != kSf k <;> simp
theorem jnV_app {k : KD} {l1 l2 : List Int} : jnV k (l1 ++ l2) = jnV k l1 ++ jnV k l2 := by
  unfold jnV
  rw [List.filter_append, List.map_append]
theorem jn_ok : jn_c.looks EF Tryz.prog 15 := OCon.proveL (c := jn_c) EF Zk (H := fun _ k f r => match f, r with | 15, 5 => some (.inv (jn_h k)) | _, _ => none) (call := fun _ k => callS Δc (fun f r => match f, r with | 15, 5 => some (.inv (jn_h k)) | _, _ => none) 2) (fun _ k => callS_ok Kk _ 2) fun (a : CL D jn_c.ash) (k : KD) (hp : jn_c.holds a k) =>
  have hp : okK k := hp
  have hb := jnV_le hp
  And.intro (⟨(([] : List Int), keysK k), rfl, rfl, rfl, List.Perm.refl _⟩ : Ent (jn_h k) [SV.own 0] [HB.arr .int 3 ([] : List Int)] [HB.itr 2 2 3 .int (keysK k)]) (
  fun (i : List Int × List Int) (hI : (i.1 ++ jnV k i.2).Perm (jnV k (keysK k))) =>
  nx (left := i.2) (fun h2 =>
    have hR : isort i.1 = jnR k := isort_eq (by rw [h2] at hI; simpa [jnV] using hI)
    have hl : (isort i.1).length ≤ 1000 := by rw [hR, jnR, isort_length]; exact hb
    have hw : IntKind.wrap .i64 (((isort i.1).length : Int) - someN (kCr k)) = jnI k := by
      rw [jnI, ← hR]
      exact IntWalk.i64_in _ (by have := hp.s1; have := hp.s2; omega)
    bq (decide (IntKind.wrap .i64 (((isort i.1).length : Int) - someN (kCr k)) < (0 : Int))) (fun h3 => (by
        rw [hw] at h3
        simp only [jn_c, jnP, h3, cond_true] : some ((0 : Int), false, ()) = some (jn_c.post a k).1))
    (fun h3 =>
      have h3' : ¬ jnI k < 0 := by rw [hw] at h3; exact of_decide_eq_false h3
      have hi : (decide ((0 : Int) ≤ IntKind.wrap .i64 (((isort i.1).length : Int) - someN (kCr k))) && decide (IntKind.wrap .i64 (((isort i.1).length : Int) - someN (kCr k)) < ((isort i.1).length : Int))) = true := by
        rw [hw, hR]
        have := hp.s1
        have e : jnI k < ((jnR k).length : Int) := by unfold jnI; omega
        simp [e]; omega
      brN (c := decide ((0 : Int) ≤ IntKind.wrap .i64 (((isort i.1).length : Int) - someN (kCr k))) && decide (IntKind.wrap .i64 (((isort i.1).length : Int) - someN (kCr k)) < ((isort i.1).length : Int))) hi (
      bq (decide ((isort i.1).getD (IntKind.wrap .i64 (((isort i.1).length : Int) - someN (kCr k))).toNat (0 : Int) ≤ a.1)) (fun h4 => (by
        rw [hw] at h3 h4; rw [hR] at h4
        simp only [jn_c, jnP, h3, h4, cond_true, cond_false] : some ((0 : Int), false, ()) = some (jn_c.post a k).1))
      (fun h4 =>
        brN (c := decide ((0 : Int) ≤ IntKind.wrap .i64 (((isort i.1).length : Int) - someN (kCr k))) && decide (IntKind.wrap .i64 (((isort i.1).length : Int) - someN (kCr k)) < ((isort i.1).length : Int))) hi (
        (by
          have e : (jn_c.post a k).1 = ((jnR k).getD (jnI k).toNat 0, true, ()) := by
            rw [hw] at h3 h4; rw [hR] at h4
            simp only [jn_c, jnP, h3, h4, cond_false]
          rw [e, hw, hR]; rfl : some (((isort i.1).getD (IntKind.wrap .i64 (((isort i.1).length : Int) - someN (kCr k))).toNat (0 : Int)), true, ()) = some (jn_c.post a k).1))))))
    (fun (x : Int) (rest : List Int) hr =>
      bq (x != kSf k) (fun h3 =>
        have hn : (i.1 ++ [(sd (kCh k) x).change.view] ++ jnV k rest).Perm (jnV k (keysK k)) := by
          obtain ⟨l1, l2, e1, e2⟩ := hr
          refine List.Perm.trans ?_ hI
          rw [e1, e2, jnV_mid, h3, jnV_app, cond_true, List.append_assoc]
          exact List.Perm.append_left _ (by rw [← List.append_assoc, ← List.append_assoc]; exact List.Perm.append_right _ List.perm_append_comm)
        brN (c := Nat.ble ((i.1.length + 1) * mulB Tryz.prog 3) maxL) (by
          have := hn.length_eq
          rw [List.length_append, List.length_append, List.length_singleton] at this
          rw [mb3]; exact Nat.ble_eq_true_of_le (by unfold maxL; omega)) (
        (⟨(i.1 ++ [(sd (kCh k) x).change.view], rest), rfl, rfl, rfl, hn, by
          obtain ⟨l1, l2, e1, e2⟩ := hr
          show rest.length < i.2.length
          rw [e1, e2]; simp⟩ : Rnd (jn_h k) i [SV.own 0] [HB.arr .int 3 (i.1 ++ [(sd (kCh k) x).change.view])] [HB.itr 2 2 3 .int rest])))
      (fun h3 => (⟨(i.1, rest), rfl, rfl, rfl, by
          obtain ⟨l1, l2, e1, e2⟩ := hr
          rw [e1, jnV_mid, h3] at hI
          show (i.1 ++ jnV k rest).Perm _
          rw [e2, jnV_app]; exact hI, by
          obtain ⟨l1, l2, e1, e2⟩ := hr
          show rest.length < i.2.length
          rw [e1, e2]; simp⟩ : Rnd (jn_h k) i [SV.own 0] [HB.arr .int 3 i.1] [HB.itr 2 2 3 .int rest]))))
end Go.Proofs.YtpbcabanpppfoaaGreat
