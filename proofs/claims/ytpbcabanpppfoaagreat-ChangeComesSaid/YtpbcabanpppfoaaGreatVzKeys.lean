/- Blocks of 64, piece by piece and at once: plain lists. No condition. -/
import Derived.Test.YtpbcabanpppfoaaGreatVzSort
import Derived.Maps.Own
import Derived.Lib.SlKeysI
set_option linter.all false
namespace Go.Vz
open Go Go.Gx
abbrev u8s (l : List UInt8) : List Int := l.map fun x => (x.toNat : Int)
section
variable (tk : List Int → List Int → List Int)
def wrF : Nat → List UInt8 → List Int → List Int → Nat → List Int × List Int × Nat
  | 0, _, st, bl, h => (st, bl, h)
  | f + 1, b, st, bl, h => bif decide (0 < b.length) then
      (bif Nat.beq (h + Nat.min b.length (64 - h)) 64 then wrF f (b.drop (Nat.min b.length (64 - h))) (tk st (lput bl h (u8s (b.take (64 - h))))) (lput bl h (u8s (b.take (64 - h)))) 0
        else wrF f (b.drop (Nat.min b.length (64 - h))) st (lput bl h (u8s (b.take (64 - h)))) (h + Nat.min b.length (64 - h)))
    else (st, bl, h)
def foldB : Nat → List Int → List Int → List Int
  | 0, st, _ => st
  | k + 1, st, xs => foldB k (tk st (xs.take 64)) (xs.drop 64)
def putL (lb : Nat → Int) (bl : List Int) : Nat → List Int
  | 0 => bl
  | i + 1 => (putL lb bl i).set (63 - i) (lb i)
def clrB (bl : List Int) (h : Nat) : List Int := (lput bl h (List.replicate (64 - h) 0)).set h 128
def sumF (lb : Nat → Int) (st bl : List Int) (h : Nat) : List Int := bif decide (56 ≤ h) then tk (tk st (clrB bl h)) (putL lb (lput (clrB bl h) 0 (List.replicate 64 0)) 8) else tk st (putL lb (clrB bl h) 8)
def lbs (lb : Nat → Int) : List Int := [lb 7, lb 6, lb 5, lb 4, lb 3, lb 2, lb 1, lb 0]
theorem putL_at (lb : Nat → Int) (p q : List Int) (hp : p.length = 56) (hq : q.length = 8) : putL lb (p ++ q) 8 = p ++ lbs lb := by
  match q, hq with
  | [a, b, c, d, e, f, g, h], _ =>
    simp only [putL, lbs]
    rw [List.set_append_right _ _ (by omega)]
    rw [List.set_append_right _ _ (by omega)]
    rw [List.set_append_right _ _ (by omega)]
    rw [List.set_append_right _ _ (by omega)]
    rw [List.set_append_right _ _ (by omega)]
    rw [List.set_append_right _ _ (by omega)]
    rw [List.set_append_right _ _ (by omega)]
    rw [List.set_append_right _ _ (by omega)]
    simp [hp]
theorem clrB_at (p q : List Int) (hl : (p ++ q).length = 64) (hp : p.length < 64) : clrB (p ++ q) p.length = p ++ 128 :: List.replicate (63 - p.length) 0 := by
  unfold clrB lput
  rw [List.take_left, List.length_replicate, List.drop_eq_nil_of_le (by omega), List.append_nil, List.set_append_right _ _ (Nat.le_refl _), Nat.sub_self]
  obtain ⟨k, hk⟩ : ∃ k, 64 - p.length = k + 1 := ⟨63 - p.length, by omega⟩
  rw [hk, show 63 - p.length = k by omega]
  rfl
theorem foldB_add : ∀ (k j : Nat) (st xs : List Int), foldB tk (k + j) st xs = foldB tk j (foldB tk k st xs) (xs.drop (64 * k))
  | 0, j, st, xs => by simp [foldB]
  | k + 1, j, st, xs => by
    rw [Nat.add_right_comm]
    show foldB tk (k + j) (tk st (xs.take 64)) (xs.drop 64) = _
    rw [foldB_add k j, List.drop_drop]
    show _ = foldB tk j (foldB tk k (tk st (xs.take 64)) (xs.drop 64)) _
    rw [show 64 + 64 * k = 64 * (k + 1) by omega]
theorem foldB_take : ∀ (k : Nat) (st xs ys : List Int), 64 * k ≤ xs.length → foldB tk k st (xs ++ ys) = foldB tk k st xs
  | 0, st, xs, ys, _ => rfl
  | k + 1, st, xs, ys, h => by
    show foldB tk k (tk st ((xs ++ ys).take 64)) ((xs ++ ys).drop 64) = foldB tk k (tk st (xs.take 64)) (xs.drop 64)
    rw [List.take_append_of_le_length (by omega), List.drop_append_of_le_length (by omega), foldB_take k _ _ _ (by rw [List.length_drop]; omega)]
theorem wrF_eq : ∀ (f : Nat) (b : List UInt8) (st bl : List Int), b.length < f → bl.length = 64 →
    ∃ bl', wrF tk f b st bl 0 = (foldB tk (b.length / 64) st (u8s b), u8s (b.drop (64 * (b.length / 64))) ++ bl', b.length % 64) ∧ (u8s (b.drop (64 * (b.length / 64))) ++ bl').length = 64
  | 0, b, st, bl, h, _ => by omega
  | f + 1, b, st, bl, h, hb => by
    unfold wrF
    by_cases h0 : b.length = 0
    · have : b = [] := List.length_eq_zero_iff.1 h0
      subst this
      exact ⟨bl, rfl, hb⟩
    · have h1 : decide (0 < b.length) = true := by simp; omega
      rw [h1, cond_true, Nat.zero_add, Nat.sub_zero]
      have e0 : lput bl 0 (u8s (b.take 64)) = u8s (b.take 64) ++ bl.drop (b.take 64).length := by
        unfold lput; simp
      rw [e0]
      by_cases h64 : b.length < 64
      · have hm : Nat.min b.length 64 = b.length := Nat.min_eq_left (by omega)
        have hne : Nat.beq b.length 64 = false := by
          cases hq : Nat.beq b.length 64 with
          | false => rfl
          | true => have := Nat.eq_of_beq_eq_true hq; omega
        rw [hm, hne, cond_false, List.drop_length, List.take_of_length_le (by omega)]
        have hd : b.length / 64 = 0 := by omega
        have hmod : b.length % 64 = b.length := by omega
        rw [hd, hmod, Nat.mul_zero, List.drop_zero]
        refine ⟨bl.drop b.length, ?_, by simp; omega⟩
        cases f with
        | zero => omega
        | succ f => rfl
      · have hm : Nat.min b.length 64 = 64 := Nat.min_eq_right (by omega)
        rw [hm, show Nat.beq 64 64 = true from rfl, cond_true]
        have e2 : bl.drop (b.take 64).length = [] := List.drop_eq_nil_of_le (by rw [List.length_take]; omega)
        rw [e2, List.append_nil]
        obtain ⟨bl', g1, g2⟩ := wrF_eq f (b.drop 64) (tk st (u8s (b.take 64))) (u8s (b.take 64)) (by rw [List.length_drop]; omega) (by simp; omega)
        rw [g1]
        have hk : b.length / 64 = (b.drop 64).length / 64 + 1 := by rw [List.length_drop]; omega
        have hm2 : b.length % 64 = (b.drop 64).length % 64 := by rw [List.length_drop]; omega
        have hdd : b.drop (64 * (b.length / 64)) = (b.drop 64).drop (64 * ((b.drop 64).length / 64)) := by rw [List.drop_drop, hk]; congr 1; omega
        rw [hdd]
        refine ⟨bl', ?_, g2⟩
        rw [hm2, hk]
        show _ = (foldB tk ((b.drop 64).length / 64) (tk st ((u8s b).take 64)) ((u8s b).drop 64), _)
        simp only [u8s, List.map_take, List.map_drop]
/-- The bytes as they are taken in. -/
def padI (lb : Nat → Int) (b : List UInt8) : List Int := u8s b ++ 128 :: List.replicate (63 - (b.length + 8) % 64) 0 ++ lbs lb
theorem padI_len (lb : Nat → Int) (b : List UInt8) : (padI lb b).length = 64 * ((b.length + 8) / 64 + 1) := by
  unfold padI lbs; simp; omega
theorem sum_eq (lb : Nat → Int) (b : List UInt8) (st : List Int) {f : Nat} {bl : List Int} (hf : b.length < f) (hb : bl.length = 64) :
    sumF tk lb (wrF tk f b st bl 0).1 (wrF tk f b st bl 0).2.1 (wrF tk f b st bl 0).2.2 = foldB tk ((padI lb b).length / 64) st (padI lb b) := by
  obtain ⟨bl', g1, g2⟩ := wrF_eq tk f b st bl hf hb
  rw [g1]
  simp only []
  have hr : (u8s (b.drop (64 * (b.length / 64)))).length = b.length % 64 := by simp; omega
  have hlt : b.length % 64 < 64 := Nat.mod_lt _ (by omega)
  have hc : clrB (u8s (b.drop (64 * (b.length / 64))) ++ bl') (b.length % 64) = u8s (b.drop (64 * (b.length / 64))) ++ 128 :: List.replicate (63 - b.length % 64) 0 := by
    have := clrB_at (u8s (b.drop (64 * (b.length / 64)))) bl' g2 (by omega)
    rw [hr] at this; exact this
  unfold sumF
  rw [hc]
  have hsplit : u8s b = u8s (b.take (64 * (b.length / 64))) ++ u8s (b.drop (64 * (b.length / 64))) := by
    rw [← List.map_append, List.take_append_drop]
  have hl1 : (u8s (b.take (64 * (b.length / 64)))).length = 64 * (b.length / 64) := by simp; omega
  generalize hX : u8s (b.drop (64 * (b.length / 64))) = X at *
  generalize hY : u8s (b.take (64 * (b.length / 64))) = Y at *
  have hfold : foldB tk (b.length / 64) st (u8s b) = foldB tk (b.length / 64) st Y := by rw [hsplit, foldB_take _ _ _ _ _ (by omega)]
  rw [hfold, padI_len]
  by_cases h56 : 56 ≤ b.length % 64
  · have hq : (b.length + 8) / 64 + 1 = b.length / 64 + 2 := by omega
    have hz : (63 - (b.length + 8) % 64) = (63 - b.length % 64) + 56 := by omega
    rw [Nat.mul_div_cancel_left _ (by omega : 0 < 64), hq, foldB_add]
    simp only [h56, decide_true, cond_true]
    have hp : padI lb b = Y ++ ((X ++ 128 :: List.replicate (63 - b.length % 64) 0) ++ (List.replicate 56 0 ++ lbs lb)) := by
      unfold padI
      rw [hsplit, hz, ← List.replicate_append_replicate]
      simp [List.append_assoc]
    rw [hp, foldB_take _ _ _ _ _ (by omega)]
    rw [← hl1, List.drop_left]
    have hA : (X ++ 128 :: List.replicate (63 - b.length % 64) 0).length = 64 := by simp; omega
    show _ = tk (tk _ (List.take 64 _)) (List.take 64 (List.drop 64 _))
    have t1 : ∀ A B : List Int, A.length = 64 → (A ++ B).take 64 = A ∧ (A ++ B).drop 64 = B := fun A B h => by rw [← h, List.take_left, List.drop_left]; exact ⟨rfl, rfl⟩
    rw [(t1 _ _ hA).1, (t1 _ _ hA).2, List.take_of_length_le (by simp [lbs])]
    congr 1
    have : lput (X ++ 128 :: List.replicate (63 - b.length % 64) 0) 0 (List.replicate 64 0) = List.replicate 56 0 ++ List.replicate 8 0 := by
      unfold lput
      rw [List.take_zero, List.length_replicate, Nat.zero_add, List.drop_eq_nil_of_le (by omega)]; rfl
    rw [this, putL_at lb _ _ (by simp) (by simp)]
  · have hq : (b.length + 8) / 64 + 1 = b.length / 64 + 1 := by omega
    have hz : (63 - (b.length + 8) % 64) = 55 - b.length % 64 := by omega
    rw [Nat.mul_div_cancel_left _ (by omega : 0 < 64), hq, foldB_add]
    simp only [h56, decide_false, cond_false]
    have hp : padI lb b = Y ++ ((X ++ 128 :: List.replicate (55 - b.length % 64) 0) ++ lbs lb) := by
      unfold padI
      rw [hsplit, hz]
      simp [List.append_assoc]
    rw [hp, foldB_take _ _ _ _ _ (by omega)]
    rw [← hl1, List.drop_left]
    show _ = tk _ (List.take 64 _)
    rw [List.take_of_length_le (by simp [lbs]; omega)]
    congr 1
    rw [show 63 - b.length % 64 = (55 - b.length % 64) + 8 by omega, ← List.replicate_append_replicate, ← List.cons_append, ← List.append_assoc, putL_at lb _ _ (by simp; omega) (by simp)]
end
end Go.Vz

namespace Go.Vz
open Go Go.Gx Go.Maps Go.RowKit
variable {E : DE} {P : Program}
/-- What slices.Sorted does with the keys of a map of numbers. -/
structure SortKOk (P : Program) (fs fk T : Nat) : Prop where
  ty : P.underlying T = some (.int .i64)
  run : ∀ (bb b nn : Nat) (D0 : DataW Unit) (R : Value → Option (DataW Unit × List MemPlace)) (w : World), w.cell? ⟨bb, 0, none⟩ = some (.map (some b)) → bb < w.heap.size → w.ownsMap P T R b nn D0 → Maps.size D0 ≤ Go.maxLen → Maps.size D0 * 8 ≤ 140737488355328 →
    Calls P fs #[.func (.func fk) #[] #[.pointer (some ⟨bb, 0, none⟩)]] w fun e w' => ∃ (v : Value) (ss : List Int), e = .returned v ∧ ss.Perm (intKeys D0) ∧ w'.ownsRow w.heap.size T 1 v ss.length ((ss.mergeSort leI).map encZ) ∧ RowKit.Below w.heap.size w w'
def smallK {α : Type} (xs : List (Int × α)) : Prop := xs.length ≤ 1000 ∧ ∀ p ∈ xs, -1000000 ≤ p.1 ∧ p.1 ≤ 1000000
def sortH (fs fk : Nat) (els : CallH E) : CallH E := fun f l s K => bif Nat.beq f fs then match l with
    | [.fn g [.ptr id 0]] => match hget s.hp id with
      | some (_, .box _ [.mp mid]) => match hget s.hp mid with
        | some (_, .map .int v xs) => cond (Nat.beq g fk) (Pre (smallK (α := v.den E) xs) ∧ K s (.sl .int (isort (List.map (fun p : Int × v.den E => p.1) xs)))) (No f)
        | _ => No f
      | _ => No f
    | _ => No f
  else els f l s K
theorem adopt {w w' : World} {G G' : Gh} (hH : Holds G w) (hB : RowKit.Below w.heap.size w w') (hg : GLe G G') (hf : ∀ b o, G' b = some o → G b = some o ∨ (w.heap.size ≤ b ∧ w'.heap[b]? = some o)) : Cx w G G' w' :=
  ⟨fun b o hb => by
    rcases hf b o hb with h | h
    · exact (hB.block b (hH.lt h)).trans (hH b o h)
    · exact h.2, hB.os, hB.tape, hB.output, hB.size, fun b hb _ => hB.block b hb, hg, fun b o hb => (hf b o hb).imp id (fun h => h.1), fun _ h => (List.not_mem_nil h).elim, List.nodup_nil⟩
theorem mergeI_eq {l k : List Int} (h : l.Perm k) : l.mergeSort leI = isort k := by
  have tr : ∀ a b c : Int, leI a b = true → leI b c = true → leI a c = true := fun a b c h1 h2 => by simp only [leI, decide_eq_true_eq] at *; exact Int.le_trans h1 h2
  have to : ∀ a b : Int, (leI a b || leI b a) = true := fun a b => by simp only [leI, Bool.or_eq_true, decide_eq_true_eq]; exact Int.le_total a b
  refine (isort_uniq (h.symm.trans (List.mergeSort_perm l leI).symm) ?_).symm
  exact (List.pairwise_mergeSort tr to l).imp fun h => by simpa [leI] using h
/-- A row of one's own, of numbers, let stay. -/
theorem ownsRow_sl {w w' : World} {G : Gh} {T : Nat} {v : Value} {ys : List Int} (hH : Holds G w) (hB : RowKit.Below w.heap.size w w') (hr : w'.ownsRow w.heap.size T 1 v ys.length (ys.map encZ)) (hl : ys.length ≤ maxL) : ∃ G', GLe G G' ∧ Cx w G G' w' ∧ Sl G' v ys := by
  obtain ⟨_, ⟨rfl, h0⟩ | ⟨g, cap, cur, rfl, h1, h2, h3, h4, h5, h6⟩⟩ := hr
  · have : ys = [] := List.length_eq_zero_iff.1 h0
    subst this
    exact ⟨G, fun _ _ h => h, adopt hH hB (fun _ _ h => h) fun _ _ h => .inl h, none, 0, rfl, Nat.le_refl _, Nat.zero_le _, fun k x hk => by simp at hk⟩
  · have hG0 : G g = none := hH.none_ h1
    have hg : GLe G (fun b => if b = g then some (.cells cur T (0, 0)) else G b) := fun b o hb => by
      show (if b = g then _ else G b) = _
      rw [if_neg (fun e => by subst e; rw [hG0] at hb; cases hb)]; exact hb
    refine ⟨_, hg, adopt hH hB hg fun b o hb => ?_, some ⟨g, 0, none⟩, cap, rfl, h3, hl, fun k x hk => ⟨g, 0, [.int .i64 x], rfl, ⟨cur, T, (0, 0), if_pos rfl, fun j u hj => ?_⟩, rfl⟩⟩
    · by_cases e : b = g
      · subst e
        rw [if_pos rfl] at hb
        exact .inr ⟨h1, by rw [h2]; exact hb⟩
      · rw [if_neg e] at hb; exact .inl hb
    · cases j with
      | zero =>
        simp only [List.getElem?_cons_zero, Option.some.injEq] at hj
        subst hj
        have : (cur.toList.take (ys.length * 1))[k]? = some (Value.int .i64 x) := by rw [h6, List.getElem?_map, hk]; rfl
        rw [List.getElem?_take] at this
        split at this
        · show cur[0 + k * 1 + 0]? = _
          rw [Nat.zero_add, Nat.mul_one, Nat.add_zero]
          simpa using this
        · cases this
      | succ j => simp at hj
theorem sortH_ok {fs fk T : Nat} (ho : SortKOk P fs fk T) {els : CallH E} (he : CallAll P els) : CallAll P (sortH fs fk els) := by
  intro w0 G0 f args s K m w vs rh hl hv h
  unfold sortH at h
  cases hb : Nat.beq f fs with
  | false => rw [hb] at h; exact he w0 G0 f args s K m w vs rh hl hv h
  | true =>
    rw [hb] at h
    simp only [cond_true] at h
    obtain rfl := Nat.eq_of_beq_eq_true hb
    split at h
    · rename_i g id
      split at h
      · rename_i ver T' mid hid
        split at h
        · rename_i ver2 v xs hmid
          cases hgk : Nat.beq g fk with
          | false => rw [hgk] at h; exact h.elim
          | true =>
            rw [hgk, cond_true] at h
            obtain rfl := Nat.eq_of_beq_eq_true hgk
            obtain ⟨⟨hs1, hs2⟩, hK⟩ := h
            obtain ⟨v1, a1, b1⟩ := hv 0 _ rfl
            obtain ⟨cv, rfl, hcv⟩ : ∃ cv : List Value, v1 = .func (.func g) #[] cv.toArray ∧ LL m [.ptr id 0] cv := b1
            obtain ⟨cv1, cv2, rfl, hp, hn⟩ := hcv
            have hn : cv2 = [] := hn
            subst hn
            obtain ⟨_, b', o', h6, rfl⟩ := hp
            have hvl : vs = [.func (.func g) #[] #[.pointer (some ⟨b', o', none⟩)]] := by
              match vs, hl with
              | [p], _ => simp at a1; rw [a1]
            subst hvl
            obtain ⟨hW, _, _, ⟨bb, cs, e1, e2, e3, e4⟩, _⟩ := rh.wd hid
            rw [e3] at h6
            simp only [Value.pointer.injEq, Option.some.injEq, Addr.mk.injEq, and_true] at h6
            obtain ⟨rfl, rfl⟩ := h6
            have hbb := (hW.2 ver rfl).1 (bb, T', cs) (by rw [e1]; exact List.mem_singleton.2 rfl)
            obtain ⟨c1, c2, f0, f1, f2⟩ := e4
            obtain ⟨mv, rfl, hmv⟩ := f1.leaf_ rfl
            have f2 : c2 = [] := f2
            subst f2
            obtain ⟨b, o, g1, g2, g3⟩ := rh.mapOf hmid
            obtain ⟨_, hmv, _⟩ := hmv
            rw [g2] at hmv
            subst hmv
            have hcell : w.cell? ⟨bb, 0, none⟩ = some (.map (some b)) := (cell_of_box hbb (by rw [f0]; rfl)).1
            letI := rlT E v
            obtain ⟨es, clock, kvs, rfl, hE, hR, hnd⟩ := g3
            have hkx : kvs.map (·.1) = xs.map (·.1) := @KvR.keys _ _ _ (rlT E v) _ kvs xs hR
            have hkey : es.toList.map (·.key) = (kvs.map (·.1)).map (fun x : Int => Value.int .i64 x) := hE.keys
            have hsz : es.size = xs.length := by
              have q1 := congrArg List.length hkey
              have q2 := congrArg List.length hkx
              simp at q1 q2; omega
            let R : Value → Option (DataW Unit × List MemPlace) := fun _ => some (.nil, [])
            have hrd : ∀ x ∈ es.toList, ∃ a : Int, a ∈ xs.map (·.1) ∧ x.key = .int .i64 a ∧ WideElems.rd P T R x = some (.int .i64 a, .nil) := fun x hx => by
              have : x.key ∈ es.toList.map (·.key) := List.mem_map.2 ⟨x, hx, rfl⟩
              rw [hkey, hkx] at this
              obtain ⟨a, ha, hax⟩ := List.mem_map.1 this
              refine ⟨a, ha, hax.symm, ?_⟩
              obtain ⟨p, hp, rfl⟩ := List.mem_map.1 ha
              have hw : (Lit.int .i64 p.1).wf = true := by
                have h7 := hs2 p hp
                simp only [Lit.wf, IntKind.min, IntKind.max, IntKind.signed, IntKind.bits, Bool.and_eq_true, decide_eq_true_eq]
                simp only [if_true]; omega
              have := WideElems.rd_mk (P := P) (R := R) (key := x.key) (val := x.val) (born := x.born) (by rw [← hax]; exact Maps.keyOf_int_mk ho.ty hw) rfl
              exact this
            have hst : MapKept.Stamped es clock := ⟨hE.old, hE.nd, by
              rw [hkey, hkx]
              exact List.Pairwise.map _ (fun a b hab e => hab (by injection e)) hnd⟩
            have hFit : WideElems.Fit P T R es clock := ⟨by rw [hsz]; exact Nat.le_trans hs1 (by decide), hst, fun x hx => by obtain ⟨a, _, _, h⟩ := hrd x hx; exact ⟨_, h⟩⟩
            have hperm : (intKeys (DataW.map ((es.toList.map (WideElems.rg P T R)).foldr DataW.insert []) : DataW Unit)).Perm (xs.map (·.1)) := by
              show (List.map (fun p : Lit × DataW Unit => intOf p.1) _).Perm _
              refine ((WideShapes.sorted_perm _).map _).trans ?_
              rw [List.map_map]
              have : es.toList.map ((fun p : Lit × DataW Unit => intOf p.1) ∘ WideElems.rg P T R) = (es.toList.map (·.key)).map (fun v => match v with | .int _ a => a | _ => 0) := by
                rw [List.map_map]
                refine List.map_congr_left fun x hx => ?_
                obtain ⟨a, _, e, h⟩ := hrd x hx
                simp only [Function.comp, WideElems.rg_of h, e, intOf]
              rw [this, hkey, hkx, List.map_map]
              have e : List.map ((fun v : Value => match v with | .int _ a => a | _ => 0) ∘ fun x : Int => Value.int .i64 x) (xs.map (·.1)) = xs.map (·.1) := by
                conv => rhs; rw [← List.map_id (xs.map (·.1))]
                exact List.map_congr_left fun x _ => rfl
              rw [e]
            have hsz2 : Maps.size (DataW.map ((es.toList.map (WideElems.rg P T R)).foldr DataW.insert []) : DataW Unit) = xs.length := by
              have := hperm.length_eq
              simp [intKeys] at this
              simpa [Maps.size] using this
            refine (ho.run bb b es.size _ R w hcell (Array.getElem?_eq_some_iff.1 hbb).1 ⟨es, clock, g1, hFit, Nat.le_refl _, rfl⟩ (by rw [hsz2]; exact Nat.le_trans hs1 (by decide)) (by rw [hsz2]; omega)).mono ?_
            rintro e w' ⟨rv, ss, rfl, hss, hrow, hB⟩
            have hms : ss.mergeSort leI = isort (xs.map (·.1)) := mergeI_eq (hss.trans hperm)
            have hln : ss.length = (isort (xs.map (·.1))).length := by rw [← hms]; exact (List.mergeSort_perm ss leI).length_eq.symm
            rw [hms, hln] at hrow
            obtain ⟨bl, L, hC, hB0, hH⟩ := rh.bx
            obtain ⟨G', q1, q2, q3⟩ := ownsRow_sl hC.holds hB hrow (by rw [isort_length, List.length_map]; exact Nat.le_trans hs1 (by unfold maxL; omega))
            have u : Up m (m.g G') := Mn.g_up q1
            exact ⟨rv, rfl, s, m.g G', .sl .int (isort (List.map (fun p : Int × v.den E => p.1) xs)), u, ⟨⟨bl, L, hC.trans q2, hB0.ext q2, hH.up u⟩, rh.n, rh.bs⟩, q3, hK⟩
        · exact h.elim
      · exact h.elim
    · exact h.elim
end Go.Vz
