/- Walks by reckoning: a slice of numbers of one's own, put in order (slices.Sort). No condition. -/
import Derived.Test.YtpbcabanpppfoaaGreatVzKeys
import Derived.Sort.Grow
import Derived.Test.YtpbcabanpppfoaaGreatCzA
import Derived.Test.YtpbcabanpppfoaaGreatCzL
import Derived.Test.YtpbcabanpppfoaaGreatVzSort
set_option linter.all false
namespace Go.Vz
open Go Go.Gx
variable {E : DE} {P : Program}
/-- What slices.Sort does with numbers. -/
structure SortOk (P : Program) (fs : Nat) : Prop where
  nil : ∀ w, Calls P fs #[.slice none 0 0] w fun e w' => e = .returned (.tuple #[]) ∧ w' = w
  run : ∀ (b off cap : Nat) (zs : List Int) (w : World), Go.Sort.Holds (Value.int .i64) w b off zs.toArray → b < w.heap.size → zs.length ≤ maxL →
    Calls P fs #[.slice (some ⟨b, off, none⟩) zs.length cap] w fun e w' => e = .returned (.tuple #[]) ∧ ∃ n os, w' = Go.Sort.grow (Go.Sort.putRow (Value.int .i64) (Go.Sort.ahead w n) b off (isort zs).toArray) os
def slcH (fs T : Nat) (els : CallH E) : CallH E := fun f l s K => bif Nat.beq f fs then match l with
    | [.nils] => K s (.tup [])
    | [.own id] => match hget s.hp id with
      | some (_, .arr .int e xs) => cond (Nat.beq e T) (K (s.turn id (.arr .int e (isort xs))) (.tup [])) (No f)
      | _ => No f
    | _ => No f
  else els f l s K
section
variable {w0 w : World} {G0 G : Gh} {M : Mu}
theorem cx_grow (h : Cx w0 G0 G w M) (n : Nat) (os : Array Obj) : Cx w0 G0 G (Go.Sort.grow (Go.Sort.ahead w n) os) M := by
  have hg : ∀ b, b < w.heap.size → (Go.Sort.grow (Go.Sort.ahead w n) os).heap[b]? = w.heap[b]? := fun b hb => by
    show (w.heap ++ os)[b]? = _
    rw [Array.getElem?_append_left hb]
  have hl : ∀ b (o : Obj), w.heap[b]? = some o → b < w.heap.size := fun b o e => (Array.getElem?_eq_some_iff.1 e).1
  exact ⟨fun b o hb => by rw [hg b (hl b o (h.holds b o hb))]; exact h.holds b o hb, h.os, h.tape, h.output, by
      have := h.size
      show w0.heap.size ≤ (w.heap ++ os).size
      rw [Array.size_append]; omega, fun b hb hm => by rw [hg b (by have := h.size; omega)]; exact h.old' b hb hm, h.gle, h.fresh, fun x hx => ⟨by
      rw [hg _ (hl _ _ (h.held x hx).1)]; exact (h.held x hx).1, (h.held x hx).2⟩, h.hnd⟩
theorem bxs_grow {k : Nat} {l : List Bx} (h : Bxs G w k l M) (n : Nat) (os : Array Obj) : Bxs G (Go.Sort.grow (Go.Sort.ahead w n) os) k l M :=
  ⟨fun x hx => ⟨by
    show (w.heap ++ os)[x.1]? = _
    rw [Array.getElem?_append_left (Array.getElem?_eq_some_iff.1 (h.at_ x hx).1).1]; exact (h.at_ x hx).1, (h.at_ x hx).2⟩, h.nodup, h.apart⟩
theorem putRow_row {g off : Nat} {cs : List Value} {t : TypeId} {ys : List Int} (hg : w.heap[g]? = some (.cells cs.toArray t (0, 0))) (h : off + ys.length ≤ cs.length) :
    Go.Sort.putRow (Value.int .i64) w g off ys.toArray = w.setRow g (cs.take off ++ ys.map (Value.int .i64) ++ cs.drop (off + ys.length)).toArray := by
  have he : (cs.take off ++ ys.map (Value.int .i64) ++ cs.drop (off + ys.length)).toArray = Go.Sort.putCells (Value.int .i64) off ys.toArray cs.toArray := by
    apply Array.ext'
    apply List.ext_getElem?
    intro k
    simp only [Go.Sort.putCells, List.size_toArray, Array.toList_mapIdx, List.getElem?_mapIdx]
    by_cases h3 : k < off
    · rw [List.append_assoc, List.getElem?_append_left (by simp; omega), List.getElem?_take_of_lt h3]
      cases cs[k]? with
      | none => rfl
      | some x => simp only [Option.map_some]; rw [if_neg (by omega)]
    · by_cases h4 : k < off + ys.length
      · rw [List.getElem?_append_left (by simp; omega), List.getElem?_append_right (by simp; omega), List.getElem?_map, List.length_take, Nat.min_eq_left (by omega), List.getElem?_eq_getElem (show k - off < ys.length by omega), List.getElem?_eq_getElem (show k < cs.length by omega)]
        simp only [Option.map_some]
        rw [if_pos ⟨by omega, h4⟩, getElem!_pos _ _ (by simp; omega)]
        simp
      · rw [List.getElem?_append_right (by simp; omega), List.getElem?_drop]
        simp only [List.length_append, List.length_take, List.length_map, Nat.min_eq_left (show off ≤ cs.length by omega)]
        rw [show off + ys.length + (k - (off + ys.length)) = k by omega]
        cases cs[k]? with
        | none => rfl
        | some x => simp only [Option.map_some]; rw [if_neg (by omega)]
  rw [he]
  have hlt : g < w.heap.size := (Array.getElem?_eq_some_iff.1 hg).1
  have hv : w.heap[g] = .cells cs.toArray t (0, 0) := (Array.getElem?_eq_some_iff.1 hg).2
  unfold Go.Sort.putRow Go.Sort.mapBlock World.setRow
  cases w with
  | mk heap tape drawn os output =>
    congr 1
    apply Array.ext
    · simp
    · intro k h1 h2
      simp only [Array.getElem_modify]
      split
      · rename_i hk; subst hk; simp at hv; simp [hv, Go.Sort.onCells]
      · rfl
theorem rows2_int : ∀ {rows : List (List Value)} {xs : List Int}, Rows2 G rows xs → rows = xs.map fun x => [Value.int .i64 x]
  | [], [], _ => rfl
  | r :: rs, x :: xs, h => by rw [rows2_int h.2]; have h1 : r = [.int .i64 x] := h.1; rw [h1]; rfl
  | [], _ :: _, h => h.elim
  | _ :: _, [], h => h.elim
theorem int_rows2 : ∀ (xs : List Int), Rows2 G (xs.map fun x => [Value.int .i64 x]) xs
  | [] => trivial
  | _ :: xs => ⟨rfl, int_rows2 xs⟩
theorem int_flat : ∀ (xs : List Int), (xs.map fun x => [Value.int .i64 x]).flatten = xs.map (Value.int .i64)
  | [] => rfl
  | x :: xs => by rw [List.map_cons, List.flatten_cons, int_flat xs]; rfl
end
theorem slcH_ok {fs T : Nat} (ho : SortOk P fs) {els : CallH E} (he : CallAll P els) : CallAll P (slcH fs T els) := by
  intro w0 G0 f args s K m w vs rh hl hv h
  unfold slcH at h
  cases hb : Nat.beq f fs with
  | false => rw [hb] at h; exact he w0 G0 f args s K m w vs rh hl hv h
  | true =>
    rw [hb] at h
    simp only [cond_true] at h
    obtain rfl := Nat.eq_of_beq_eq_true hb
    split at h
    · obtain ⟨v1, a1, b1⟩ := hv 0 _ rfl
      have b1 : v1 = .slice none 0 0 := b1
      subst b1
      have hvl : vs = [.slice none 0 0] := by
        match vs, hl with
        | [p], _ => simp at a1; rw [a1]
      subst hvl
      refine (ho.nil w).mono ?_
      rintro e w' ⟨rfl, rfl⟩
      exact ⟨_, rfl, s, m, .tup [], Up.refl m, rh, ⟨[], rfl, rfl⟩, h⟩
    · rename_i id
      split at h
      · rename_i ver e xs hg
        cases hc : Nat.beq e T with
        | false => rw [hc] at h; exact h.elim
        | true =>
          rw [hc, cond_true] at h
          obtain ⟨v1, a1, b1⟩ := hv 0 _ rfl
          obtain ⟨_, h3a, h3⟩ := leaf_L rfl b1
          have hvl : vs = [v1] := by
            match vs, hl with
            | [p], _ => simp at a1; rw [a1]
          subst hvl
          obtain ⟨_, _, _, ⟨o, e1, e2, h5, h6⟩, _⟩ := rh.wd hg
          obtain ⟨p, q, A, B, hC, hB, hT⟩ := rh.turn hg
          rw [e1] at hB
          rw [e2] at hC hB
          obtain ⟨A1, n1, c1, h7⟩ := h3
          rw [h7] at h3a h5
          subst h3a
          obtain ⟨rows, ⟨g1, g2⟩, g3⟩ := h5
          have hr := rows2_int g3
          cases o with
          | none =>
            obtain ⟨rfl, hv0⟩ := g2
            obtain rfl : xs = [] := by cases xs with | nil => rfl | cons => simp at hr
            rw [hv0] at h7 ⊢
            refine (ho.nil w).mono ?_
            rintro e' w' ⟨rfl, rfl⟩
            obtain ⟨u, r'⟩ := hT m.G w' (.arr .int e []) [] [] (GLe.refl _) hC hB ⟨none, rfl, rfl, by rw [h7]; exact Ow.nil_ _ _, by simp [maxL]⟩
            exact ⟨_, rfl, _, _, .tup [], u, r', ⟨[], rfl, rfl⟩, h⟩
          | some ob =>
            obtain ⟨g, T', cs⟩ := ob
            obtain ⟨rfl, off, cap, hv0, k1, k2, k3, k4⟩ := g2
            have hlen : rows.length = xs.length := g3.length
            have hsz : Rp.sz Int = 1 := rfl
            rw [hlen] at hv0 k1 k4
            rw [hv0] at h7 ⊢
            have k3 : cs.length = off + cap * 1 := k3
            have k4 : (cs.drop off).take (xs.length * 1) = rows.flatten := k4
            rw [Nat.mul_one] at k3 k4
            rw [hr, int_flat] at k4
            have hi : (p ++ ([(g, T', cs)] ++ q))[p.length]? = some (g, T', cs) := by simp
            have hgb := hB.get hi
            have hlt : g < w.heap.size := (Array.getElem?_eq_some_iff.1 hgb.1).1
            refine (ho.run g off cap xs w (fun j hj => ?_) hlt h6).mono ?_
            · have hj : j < xs.length := by simpa using hj
              refine cell_of_box hgb.1 ?_
              have : ((cs.drop off).take xs.length)[j]? = (xs.map (Value.int .i64))[j]? := by rw [k4]
              rw [List.getElem?_take_of_lt hj, List.getElem?_drop, List.getElem?_map] at this
              rw [this]
              simp [getElem!_pos, hj]
            · rintro e' w' ⟨rfl, n, os, rfl⟩
              have hl2 : (isort xs).length = xs.length := isort_length xs
              have e5 : Go.Sort.putRow (Value.int .i64) (Go.Sort.ahead w n) g off (isort xs).toArray = Go.Sort.ahead (w.setRow g (cs.take off ++ (isort xs).map (Value.int .i64) ++ cs.drop (off + (isort xs).length)).toArray) n := by
                rw [← putRow_row hgb.1 (by omega)]; rfl
              rw [e5]
              have hC' := cx_grow (hC.setRow' hgb.2.1 hgb.2.2 (hB.off hi) (cs.take off ++ (isort xs).map (Value.int .i64) ++ cs.drop (off + (isort xs).length)).toArray) n os
              have hB' := bxs_grow (hB.set hi (cs.take off ++ (isort xs).map (Value.int .i64) ++ cs.drop (off + (isort xs).length))) n os
              rw [List.set_append_right _ _ (Nat.le_refl _), Nat.sub_self] at hB'
              obtain ⟨u, r'⟩ := hT m.G _ (.arr .int T' (isort xs)) [(g, T', _)] [] (GLe.refl _) hC' hB' ⟨some (g, T', _), rfl, rfl, by
                rw [h7]
                refine ⟨(isort xs).map fun x => [Value.int .i64 x], ⟨fun r hr => ?_, rfl, off, cap, by rw [List.length_map, hl2], by rw [List.length_map]; omega, k2, ?_, ?_⟩, int_rows2 _⟩
                · obtain ⟨x, _, rfl⟩ := List.mem_map.1 hr; rfl
                · show _ = off + cap * 1
                  simp; omega
                · show List.take (_ * 1) _ = _
                  rw [int_flat, List.length_map, Nat.mul_one, List.append_assoc, List.drop_append_of_le_length (by simp; omega), List.drop_take_self, List.nil_append, List.take_append_of_le_length (by simp), List.take_of_length_le (by simp)], by rw [hl2]; exact h6⟩
              exact ⟨_, rfl, _, _, .tup [], u, r', ⟨[], rfl, rfl⟩, h⟩
      · exact h.elim
    · exact h.elim
end Go.Vz

namespace Go.Proofs.YtpbcabanpppfoaaGreat
open Go Go.Gx Go.Vz
set_option maxRecDepth 100000
theorem sort_ok : SortOk Tryz.prog 45 where
  nil := fun w => Go.Proofs.AnyM.slices_Sort_int_none Go.Proofs.Tryz.sortA none 0 w
  run := fun b off cap zs w hH hb hl => by
    refine (Go.Proofs.AnyM.slices_Sort_int Go.Proofs.Tryz.sortA b off cap zs w hH hb (by unfold maxL at hl; omega)).mono ?_
    rintro e w' ⟨rfl, n, os, rfl⟩
    refine ⟨rfl, n, os, ?_⟩
    have : (zs.mergeSort fun x y => decide (x ≤ y)) = isort zs := mergeI_eq (List.Perm.refl zs)
    rw [this]
abbrev Γk : Nat → Option (Con D) := addC Γc 92 oth_c
theorem Kk : Kept EF Tryz.prog Γk Δc := Kc.c oth_ok
noncomputable def Zk : ZF Tryz.prog D := Z0.side Kk
/-- Calls, the sorting ones among them. -/
noncomputable abbrev callS (Δ : Nat → Option (OCon D)) (H : Nat → Nat → Option (Hint D)) (n : Nat) : CallH D := slcH 45 3 (sortH 53 94 (calls EF Zk Γk Δ H n))
theorem callS_ok {Δ : Nat → Option (OCon D)} (h : Kept EF Tryz.prog Γk Δ) (H : Nat → Nat → Option (Hint D)) (n : Nat) : CallAll Tryz.prog (callS Δ H n) := slcH_ok sort_ok (sortH_ok sortK_ok (calls_ok Zk h n))
/-- A range over a map goes on. -/
theorem nx {κ : Type} {left : List κ} {a : Prop} {b : κ → List κ → Prop} (h0 : left = [] → a) (h1 : ∀ x rest, (∃ l1 l2, left = l1 ++ x :: l2 ∧ rest = l1 ++ l2) → b x rest) : Nx left a b := ⟨h0, fun l1 x l2 h => h1 x (l1 ++ l2) ⟨l1, l2, h, rfl⟩⟩
end Go.Proofs.YtpbcabanpppfoaaGreat

namespace Go.Proofs.YtpbcabanpppfoaaGreat
open Go Go.Gx Go.Vz
set_option maxRecDepth 100000
def said0 : Said := ⟨⟨0, 0, 0, [], [], []⟩, Dig.zero⟩
def ack0 : Ack := ⟨0, Dig.zero⟩
abbrev kCr (k : KD) : Crew := k.1.1
abbrev kSf (k : KD) : Int := k.1.2.1
abbrev kGr (k : KD) : Int := k.1.2.2.1
abbrev kEp (k : KD) : Int := k.1.2.2.2.1
abbrev kCh (k : KD) : List (Int × Said) := k.2.2.1
abbrev kAk (k : KD) : List (Pair × Ack) := k.2.2.2.1
abbrev kSn (k : KD) : List (Dig × List UInt8) := k.2.2.2.2.1
abbrev kMo (k : KD) : List (List UInt8 × Bool) := k.2.2.2.2.2.1
abbrev kAks (k : KD) (l : List (Pair × Ack)) : KD := (k.1, k.2.1, k.2.2.1, l, k.2.2.2.2)
abbrev kChs (k : KD) (l : List (Int × Said)) : KD := (k.1, k.2.1, l, k.2.2.2)
abbrev kInk (k : KD) (b : List UInt8) : KD := (k.1, (IntKind.wrap .i64 (k.2.1.1 + 1), ()), k.2.2.1, k.2.2.2.1, bkS b (kSn k), bkM b (kSn k) (kMo k), ())
abbrev sdO (l : List (Int × Said)) (x : Int) : Option Said := mgetT (E := D) .int (.st 8) l x
abbrev sd (l : List (Int × Said)) (x : Int) : Said := (sdO l x).getD said0
abbrev akG (l : List (Pair × Ack)) (p : Pair) : Ack := (mgetT (E := D) (.st 10) (.st 9) l p).getD ack0
abbrev okC (c : Change) : Prop := c.marks.length ≤ 1000000 ∧ c.p.length ≤ 1000000 ∧ c.q.length ≤ 1000000
def someN (c : Crew) : Int := (some_p (c, ())).1
/-- What is so of each council. -/
structure okK (k : KD) : Prop where
  nodes : (kCr k).nodes.length ≤ 1000000
  s1 : 1 ≤ someN (kCr k)
  s2 : someN (kCr k) ≤ 1000000
  len : (kCh k).length ≤ 1000
  ch : ∀ p ∈ kCh k, okC p.2.change ∧ -1000000 ≤ p.1 ∧ p.1 ≤ 1000000
theorem sdO_mem {l : List (Int × Said)} {x : Int} {y : Said} (h : sdO l x = some y) : (x, y) ∈ l := by
  replace h : @mget Int (Ty.dec D .int) Said l x = some y := h
  induction l with
  | nil => cases h
  | cons p r ih =>
    unfold mget at h
    by_cases e : p.1 = x
    · rw [if_pos e] at h
      have : p = (x, y) := Prod.ext e (Option.some.inj h)
      rw [this]; exact List.mem_cons_self
    · rw [if_neg e] at h; exact List.mem_cons_of_mem _ (ih h)
theorem sd_okC {k : KD} (h : okK k) (x : Int) : okC (sd (kCh k) x).change := by
  unfold sd
  cases e : sdO (kCh k) x with
  | none => exact ⟨by show 0 ≤ _; omega, by show 0 ≤ _; omega, by show 0 ≤ _; omega⟩
  | some y => exact (h.ch _ (sdO_mem e)).1
/-! ### 41 (*Council).hears -/
def hearsP (k : KD) (n : Note) : (Int × Unit) × KD :=
  bif decide (n.view < (akG (kAk k) ⟨n.sender, n.node⟩).view) then ((190, ()), k)
  else bif (bif (akG (kAk k) ⟨n.sender, n.node⟩).view == n.view then !((akG (kAk k) ⟨n.sender, n.node⟩).view == n.view && (decide ((akG (kAk k) ⟨n.sender, n.node⟩).dig = n.dig) && true)) else false) then ((151, ()), k)
  else ((0, ()), kAks k (mputT (E := D) (.st 10) (.st 9) (kAk k) ⟨n.sender, n.node⟩ ⟨n.view, n.dig⟩))
def hears_c : OCon D := { ash := [.nm 0, .dat (.st 7)], es := KS, rsh := [.dat .int], pes := KS, post := fun a k => hearsP k a.1 }
theorem hears_ok : hears_c.ok EF Tryz.prog 41 := OCon.prove (c := hears_c) EF Zk Kk (H := fun _ _ _ _ => none) (n := 1) fun (a : CL D hears_c.ash) (k : KD) (_ : hears_c.holds a k) =>
  both (br_ (fun h1 => hears_c.lf a k (ct h1 (rfl))) (fun h1 => br_ (fun h2 => hears_c.lf a k (cf h1 (ct h2 (rfl)))) (fun h2 => hears_c.lf a k (cf h1 (cf h2 (rfl))))))
/-! ### 42 (*Council).digested -/
def dgd_c : OCon D := { ash := [.nm 0, .dat (.st 3)], es := KS, rsh := [.dat (.st 8), .dat .bool], pes := KS, pre := some (fun a _ => isW a.1), post := fun a k => (((⟨a.1, shaD (chBytes a.1)⟩ : Said), true, ()), kInk k (chBytes a.1)) }
theorem isW_okC {c : Change} (h : isW c) : okC c := by obtain ⟨i, rfl, _⟩ := h; exact ⟨by show 1 ≤ _; omega, by show 0 ≤ _; omega, by show 1 ≤ _; omega⟩
theorem isW_len {c : Change} (h : isW c) : (chBytes c).length ≤ 65536 := by obtain ⟨i, rfl, _⟩ := h; rw [← w_eq]; have := l11 i.1 i.2.1 i.2.2; omega
theorem dgd_ok : dgd_c.ok EF Tryz.prog 42 := OCon.prove (c := dgd_c) EF Zk Kk (H := fun _ _ _ _ => none) (n := 3) fun (a : CL D dgd_c.ash) (k : KD) (hp : dgd_c.holds a k) =>
  have hp : isW a.1 := hp
  have hc := isW_okC hp
  And.intro (Pre.mk (by obtain ⟨i, h1, h2⟩ := hp; exact ⟨i, by rw [h1], h2⟩) : Pre (∃ i : Int × Int × UInt8, (a.1, ()) = (says i.1 i.2.1 i.2.2, ()) ∧ chOk i)) (
  And.intro (Pre.mk (isW_len hp) : Pre ((chBytes a.1).length ≤ 65536)) (
  And.intro (Pre.mk hc.1 : Pre (a.1.marks.length ≤ 1000000)) (
  And.intro (Pre.mk hc.2.1 : Pre (a.1.p.length ≤ 1000000)) (
  And.intro (Pre.mk hc.2.2 : Pre (a.1.q.length ≤ 1000000)) (
  (rfl : some (((⟨a.1, shaD (chBytes a.1)⟩ : Said), true, ()), kInk k (chBytes a.1)) = some (dgd_c.post a k)))))))
/-! ### 24 (*Council).Of -/
def kof_c : OCon D := { ash := [.nm 0, .dat .int], es := KS, rsh := [.dat (.st 3), .dat .bool], pes := KS, pre := some (fun _ k => okK k), post := fun a k => (((sd (kCh k) a.1).change, (sdO (kCh k) a.1).isSome, ()), k) }
theorem kof_ok : kof_c.looks EF Tryz.prog 24 := OCon.proveL (c := kof_c) EF Zk (H := fun _ _ _ _ => none) (call := fun _ _ => calls EF Zk Γk Δc (fun _ _ => none) 3) (fun _ _ => calls_ok Zk Kk 3) fun (a : CL D kof_c.ash) (k : KD) (hp : kof_c.holds a k) =>
  have hc := sd_okC hp a.1
  And.intro (Pre.mk hc.1 : Pre ((sd (kCh k) a.1).change.marks.length ≤ 1000000)) (
  And.intro (Pre.mk hc.2.1 : Pre ((sd (kCh k) a.1).change.p.length ≤ 1000000)) (
  And.intro (Pre.mk hc.2.2 : Pre ((sd (kCh k) a.1).change.q.length ≤ 1000000)) (
  (rfl : some ((sd (kCh k) a.1).change, (sdO (kCh k) a.1).isSome, ()) = some (kof_c.post a k).1))))
/-! ### 25 (*Council).Behind -/
def keysK (k : KD) : List Int := (kCh k).map fun p : Int × Said => p.1
def bhC (k : KD) (v : Int) (xs : List Int) : Nat := xs.countP fun x => decide (v ≤ (sd (kCh k) x).change.view)
def bh_h (k : KD) (v : Int) : LH D := ⟨Nat × List Int, [4], fun i => [iv i.1], fun i => i.1 + bhC k v i.2 = bhC k v (keysK k), fun i => i.2.length, [], fun _ => [], [7], fun i => [.itr 2 2 3 .int i.2]⟩
def bhd_c : OCon D := { ash := [.nm 0, .dat .int], es := KS, rsh := [.dat .int], pes := KS, pre := some (fun _ k => okK k), post := fun a k => (((bhC k a.1 (keysK k) : Nat), ()), k) }
theorem bhC_le {k : KD} (h : okK k) (v : Int) : bhC k v (keysK k) ≤ 1000 := Nat.le_trans List.countP_le_length (by unfold keysK; rw [List.length_map]; exact h.len)
theorem bhC_mid {k : KD} {v x : Int} {l1 l2 : List Int} : bhC k v (l1 ++ x :: l2) = bhC k v (l1 ++ l2) + (bif decide (v ≤ (sd (kCh k) x).change.view) then 1 else 0) := by
  unfold bhC
  rw [List.countP_append, List.countP_cons, List.countP_append]
  cases decide (v ≤ (sd (kCh k) x).change.view) <;> simp <;> omega
theorem bhd_ok : bhd_c.looks EF Tryz.prog 25 := OCon.proveL (c := bhd_c) EF Zk (H := fun a k f r => match f, r with | 25, 4 => some (.inv (bh_h k a.1)) | _, _ => none) (call := fun a k => calls EF Zk Γk Δc (fun f r => match f, r with | 25, 4 => some (.inv (bh_h k a.1)) | _, _ => none) 1) (fun _ _ => calls_ok Zk Kk 1) fun (a : CL D bhd_c.ash) (k : KD) (hp : bhd_c.holds a k) =>
  have hp : okK k := hp
  have hb := bhC_le hp a.1
  And.intro (⟨((0 : Nat), keysK k), rfl, rfl, rfl, Nat.zero_add _⟩ : Ent (bh_h k a.1) [SV.i IntKind.i64 (0 : Int)] [] [HB.itr 2 2 3 .int (keysK k)]) (
  fun (i : Nat × List Int) (hI : i.1 + bhC k a.1 i.2 = bhC k a.1 (keysK k)) =>
  nx (left := i.2) (fun h2 => (by
      rw [h2] at hI
      have : i.1 = bhC k a.1 (keysK k) := by rw [← hI]; rfl
      rw [this]; rfl : some ((i.1 : Int), ()) = some (bhd_c.post a k).1))
    (fun (x : Int) (rest : List Int) hr =>
      bq (decide (a.1 ≤ (sd (kCh k) x).change.view)) (fun h3 => (⟨(i.1 + 1, rest), by
          show [SV.i IntKind.i64 (IntKind.wrap .i64 ((i.1 : Int) + 1))] = [iv ((i.1 + 1 : Nat) : Int)]
          rw [wr1 (by omega)], rfl, rfl, by
          obtain ⟨l1, l2, e1, e2⟩ := hr
          rw [e1, bhC_mid, h3] at hI
          show i.1 + 1 + bhC k a.1 rest = _
          rw [e2, ← hI]; simp only [cond_true]; omega, by
          obtain ⟨l1, l2, e1, e2⟩ := hr
          show rest.length < i.2.length
          rw [e1, e2]; simp⟩ : Rnd (bh_h k a.1) i [SV.i IntKind.i64 (IntKind.wrap .i64 ((i.1 : Int) + 1))] [] [HB.itr 2 2 3 .int rest]))
      (fun h3 => (⟨(i.1, rest), rfl, rfl, rfl, by
          obtain ⟨l1, l2, e1, e2⟩ := hr
          rw [e1, bhC_mid, h3] at hI
          show i.1 + bhC k a.1 rest = _
          rw [e2, ← hI]; simp only [cond_false]; omega, by
          obtain ⟨l1, l2, e1, e2⟩ := hr
          show rest.length < i.2.length
          rw [e1, e2]; simp⟩ : Rnd (bh_h k a.1) i [SV.i IntKind.i64 (i.1 : Int)] [] [HB.itr 2 2 3 .int rest]))))
/-! ### 15 (*Council).Join -/
def jnV (k : KD) (xs : List Int) : List Int := (xs.filter fun x => x != kSf k).map fun x => (sd (kCh k) x).change.view
def jn_h (k : KD) : LH D := ⟨List Int × List Int, [6], fun _ => [.own 0], fun i => (i.1 ++ jnV k i.2).Perm (jnV k (keysK k)), fun i => i.2.length, [(.sl 6, .int, 3)], fun i => [.arr .int 3 i.1], [7], fun i => [.itr 2 2 3 .int i.2]⟩
def jnR (k : KD) : List Int := isort (jnV k (keysK k))
def jnI (k : KD) : Int := ((jnR k).length : Int) - someN (kCr k)
def jnP (k : KD) (v : Int) : Int × Bool × Unit := bif decide (jnI k < 0) then (0, false, ()) else bif decide ((jnR k).getD (jnI k).toNat 0 ≤ v) then (0, false, ()) else ((jnR k).getD (jnI k).toNat 0, true, ())
def jn_c : OCon D := { ash := [.nm 0, .dat .int], es := KS, rsh := [.dat .int, .dat .bool], pes := KS, pre := some (fun _ k => okK k), post := fun a k => (jnP k a.1, k) }
theorem jnV_le {k : KD} (h : okK k) : (jnV k (keysK k)).length ≤ 1000 := by
  unfold jnV; rw [List.length_map]
  exact Nat.le_trans (List.length_filter_le _ _) (by unfold keysK; rw [List.length_map]; exact h.len)
theorem jnV_mid {k : KD} {x : Int} {l1 l2 : List Int} : jnV k (l1 ++ x :: l2) = jnV k l1 ++ ((bif x != kSf k then [(sd (kCh k) x).change.view] else []) ++ jnV k l2) := by
  unfold jnV
  rw [List.filter_append, List.filter_cons, List.map_append]
  cases x != kSf k <;> simp
theorem jnV_app {k : KD} {l1 l2 : List Int} : jnV k (l1 ++ l2) = jnV k l1 ++ jnV k l2 := by
  unfold jnV
  rw [List.filter_append, List.map_append]
theorem jn_ok : jn_c.looks EF Tryz.prog 15 := OCon.proveL (c := jn_c) EF Zk (H := fun _ k f r => match f, r with | 15, 5 => some (.inv (jn_h k)) | _, _ => none) (call := fun _ k => callS Δc (fun f r => match f, r with | 15, 5 => some (.inv (jn_h k)) | _, _ => none) 2) (fun _ k => callS_ok Kk _ 2) fun (a : CL D jn_c.ash) (k : KD) (hp : jn_c.holds a k) =>
  have hp : okK k := hp
  have hb := jnV_le hp
  And.intro (⟨(([] : List Int), keysK k), rfl, rfl, rfl, List.Perm.refl _⟩ : Ent (jn_h k) [SV.own 0] [HB.arr .int 3 ([] : List Int)] [HB.itr 2 2 3 .int (keysK k)]) (
  fun (i : List Int × List Int) (hI : (i.1 ++ jnV k i.2).Perm (jnV k (keysK k))) =>
  nx (left := i.2) (fun h2 =>
    have hR : isort i.1 = jnR k := isort_eq (by rw [h2] at hI; simpa [jnV] using hI)
    have hl : (isort i.1).length ≤ 1000 := by rw [hR, jnR, isort_length]; exact hb
    have hw : IntKind.wrap .i64 (((isort i.1).length : Int) - someN (kCr k)) = jnI k := by
      rw [jnI, ← hR]
      exact IntWalk.i64_in _ (by have := hp.s1; have := hp.s2; omega)
    bq (decide (IntKind.wrap .i64 (((isort i.1).length : Int) - someN (kCr k)) < (0 : Int))) (fun h3 => (by
        rw [hw] at h3
        simp only [jn_c, jnP, h3, cond_true] : some ((0 : Int), false, ()) = some (jn_c.post a k).1))
    (fun h3 =>
      have h3' : ¬ jnI k < 0 := by rw [hw] at h3; exact of_decide_eq_false h3
      have hi : (decide ((0 : Int) ≤ IntKind.wrap .i64 (((isort i.1).length : Int) - someN (kCr k))) && decide (IntKind.wrap .i64 (((isort i.1).length : Int) - someN (kCr k)) < ((isort i.1).length : Int))) = true := by
        rw [hw, hR]
        have := hp.s1
        have e : jnI k < ((jnR k).length : Int) := by unfold jnI; omega
        simp [e]; omega
      brN (c := decide ((0 : Int) ≤ IntKind.wrap .i64 (((isort i.1).length : Int) - someN (kCr k))) && decide (IntKind.wrap .i64 (((isort i.1).length : Int) - someN (kCr k)) < ((isort i.1).length : Int))) hi (
      bq (decide ((isort i.1).getD (IntKind.wrap .i64 (((isort i.1).length : Int) - someN (kCr k))).toNat (0 : Int) ≤ a.1)) (fun h4 => (by
        rw [hw] at h3 h4; rw [hR] at h4
        simp only [jn_c, jnP, h3, h4, cond_true, cond_false] : some ((0 : Int), false, ()) = some (jn_c.post a k).1))
      (fun h4 =>
        brN (c := decide ((0 : Int) ≤ IntKind.wrap .i64 (((isort i.1).length : Int) - someN (kCr k))) && decide (IntKind.wrap .i64 (((isort i.1).length : Int) - someN (kCr k)) < ((isort i.1).length : Int))) hi (
        (by
          have e : (jn_c.post a k).1 = ((jnR k).getD (jnI k).toNat 0, true, ()) := by
            rw [hw] at h3 h4; rw [hR] at h4
            simp only [jn_c, jnP, h3, h4, cond_false]
          rw [e, hw, hR]; rfl : some (((isort i.1).getD (IntKind.wrap .i64 (((isort i.1).length : Int) - someN (kCr k))).toNat (0 : Int)), true, ()) = some (jn_c.post a k).1))))))
    (fun (x : Int) (rest : List Int) hr =>
      bq (x != kSf k) (fun h3 =>
        have hn : (i.1 ++ [(sd (kCh k) x).change.view] ++ jnV k rest).Perm (jnV k (keysK k)) := by
          obtain ⟨l1, l2, e1, e2⟩ := hr
          refine List.Perm.trans ?_ hI
          rw [e1, e2, jnV_mid, h3, jnV_app, cond_true, List.append_assoc]
          exact List.Perm.append_left _ (by rw [← List.append_assoc, ← List.append_assoc]; exact List.Perm.append_right _ List.perm_append_comm)
        brN (c := Nat.ble ((i.1.length + 1) * mulB Tryz.prog 3) maxL) (by
          have := hn.length_eq
          rw [List.length_append, List.length_append, List.length_singleton] at this
          rw [mb3]; exact Nat.ble_eq_true_of_le (by unfold maxL; omega)) (
        (⟨(i.1 ++ [(sd (kCh k) x).change.view], rest), rfl, rfl, rfl, hn, by
          obtain ⟨l1, l2, e1, e2⟩ := hr
          show rest.length < i.2.length
          rw [e1, e2]; simp⟩ : Rnd (jn_h k) i [SV.own 0] [HB.arr .int 3 (i.1 ++ [(sd (kCh k) x).change.view])] [HB.itr 2 2 3 .int rest])))
      (fun h3 => (⟨(i.1, rest), rfl, rfl, rfl, by
          obtain ⟨l1, l2, e1, e2⟩ := hr
          rw [e1, jnV_mid, h3] at hI
          show (i.1 ++ jnV k rest).Perm _
          rw [e2, jnV_app]; exact hI, by
          obtain ⟨l1, l2, e1, e2⟩ := hr
          show rest.length < i.2.length
          rw [e1, e2]; simp⟩ : Rnd (jn_h k) i [SV.own 0] [HB.arr .int 3 i.1] [HB.itr 2 2 3 .int rest]))))
end Go.Proofs.YtpbcabanpppfoaaGreat
