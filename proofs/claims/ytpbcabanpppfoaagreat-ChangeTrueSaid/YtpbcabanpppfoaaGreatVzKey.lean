/- Walks by reckoning: the keys of a map of numbers, sorted. No condition. -/
import Derived.Test.YtpbcabanpppfoaaGreatVzSha
import Derived.Maps.Own
import Derived.Lib.SlKeysI
import Derived.Test.YtpbcabanpppfoaaGreatVzOnce
import Derived.Test.YtpbcabanpppfoaaGreatGxPtr
set_option linter.all false
namespace Go.Vz
open Go Go.Gx Go.Maps Go.RowKit
variable {E : DE} {P : Program}
/-- What slices.Sorted does with the keys of a map of numbers. -/
structure SortKOk (P : Program) (fs fk T : Nat) : Prop where
  ty : P.underlying T = some (.int .i64)
  run : ∀ (bb b nn : Nat) (D0 : DataW Unit) (R : Value → Option (DataW Unit × List MemPlace)) (w : World), w.cell? ⟨bb, 0, none⟩ = some (.map (some b)) → bb < w.heap.size → w.ownsMap P T R b nn D0 → Maps.size D0 ≤ Go.maxLen → Maps.size D0 * 8 ≤ 140737488355328 →
    Calls P fs #[.func (.func fk) #[] #[.pointer (some ⟨bb, 0, none⟩)]] w fun e w' => ∃ (v : Value) (ss : List Int), e = .returned v ∧ ss.Perm (intKeys D0) ∧ w'.ownsRow w.heap.size T 1 v ss.length ((ss.mergeSort leI).map encZ) ∧ RowKit.Below w.heap.size w w'
def smallK {α : Type} (xs : List (Int × α)) : Prop := xs.length ≤ 1000 ∧ ∀ p ∈ xs, -1000000 ≤ p.1 ∧ p.1 ≤ 1000000
def sortH (fs fk : Nat) (els : CallH E) : CallH E := fun f l s K => bif Nat.beq f fs then match l with
    | [.fn g [.ptr id 0]] => match hget s.hp id with
      | some (_, .box _ [.mp mid]) => match hget s.hp mid with
        | some (_, .map .int v xs) => cond (Nat.beq g fk) (Pre (smallK (α := v.den E) xs) ∧ K s (.sl .int (isort (List.map (fun p : Int × v.den E => p.1) xs)))) (No f)
        | _ => No f
      | _ => No f
    | _ => No f
  else els f l s K
theorem adopt {w w' : World} {G G' : Gh} (hH : Holds G w) (hB : RowKit.Below w.heap.size w w') (hg : GLe G G') (hf : ∀ b o, G' b = some o → G b = some o ∨ (w.heap.size ≤ b ∧ w'.heap[b]? = some o)) : Cx w G G' w' :=
  ⟨fun b o hb => by
    rcases hf b o hb with h | h
    · exact (hB.block b (hH.lt h)).trans (hH b o h)
    · exact h.2, hB.os, hB.tape, hB.output, hB.size, fun b hb _ => hB.block b hb, hg, fun b o hb => (hf b o hb).imp id (fun h => h.1), fun _ h => (List.not_mem_nil h).elim, List.nodup_nil⟩
theorem mergeI_eq {l k : List Int} (h : l.Perm k) : l.mergeSort leI = isort k := by
  have tr : ∀ a b c : Int, leI a b = true → leI b c = true → leI a c = true := fun a b c h1 h2 => by simp only [leI, decide_eq_true_eq] at *; exact Int.le_trans h1 h2
  have to : ∀ a b : Int, (leI a b || leI b a) = true := fun a b => by simp only [leI, Bool.or_eq_true, decide_eq_true_eq]; exact Int.le_total a b
  refine (isort_uniq (h.symm.trans (List.mergeSort_perm l leI).symm) ?_).symm
  exact (List.pairwise_mergeSort tr to l).imp fun h => by simpa [leI] using h
/-- A row of one's own, of numbers, let stay. -/
theorem ownsRow_sl {w w' : World} {G : Gh} {T : Nat} {v : Value} {ys : List Int} (hH : Holds G w) (hB : RowKit.Below w.heap.size w w') (hr : w'.ownsRow w.heap.size T 1 v ys.length (ys.map encZ)) (hl : ys.length ≤ maxL) : ∃ G', GLe G G' ∧ Cx w G G' w' ∧ Sl G' v ys := by
  obtain ⟨_, ⟨rfl, h0⟩ | ⟨g, cap, cur, rfl, h1, h2, h3, h4, h5, h6⟩⟩ := hr
  · have : ys = [] := List.length_eq_zero_iff.1 h0
    subst this
    exact ⟨G, fun _ _ h => h, adopt hH hB (fun _ _ h => h) fun _ _ h => .inl h, none, 0, rfl, Nat.le_refl _, Nat.zero_le _, fun k x hk => by simp at hk⟩
  · have hG0 : G g = none := hH.none_ h1
    have hg : GLe G (fun b => if b = g then some (.cells cur T (0, 0)) else G b) := fun b o hb => by
      show (if b = g then _ else G b) = _
      rw [if_neg (fun e => by subst e; rw [hG0] at hb; cases hb)]; exact hb
    refine ⟨_, hg, adopt hH hB hg fun b o hb => ?_, some ⟨g, 0, none⟩, cap, rfl, h3, hl, fun k x hk => ⟨g, 0, [.int .i64 x], rfl, ⟨cur, T, (0, 0), if_pos rfl, fun j u hj => ?_⟩, rfl⟩⟩
    · by_cases e : b = g
      · subst e
        rw [if_pos rfl] at hb
        exact .inr ⟨h1, by rw [h2]; exact hb⟩
      · rw [if_neg e] at hb; exact .inl hb
    · cases j with
      | zero =>
        simp only [List.getElem?_cons_zero, Option.some.injEq] at hj
        subst hj
        have : (cur.toList.take (ys.length * 1))[k]? = some (Value.int .i64 x) := by rw [h6, List.getElem?_map, hk]; rfl
        rw [List.getElem?_take] at this
        split at this
        · show cur[0 + k * 1 + 0]? = _
          rw [Nat.zero_add, Nat.mul_one, Nat.add_zero]
          simpa using this
        · cases this
      | succ j => simp at hj
theorem sortH_ok {fs fk T : Nat} (ho : SortKOk P fs fk T) {els : CallH E} (he : CallAll P els) : CallAll P (sortH fs fk els) := by
  intro w0 G0 f args s K m w vs rh hl hv h
  unfold sortH at h
  cases hb : Nat.beq f fs with
  | false => rw [hb] at h; exact he w0 G0 f args s K m w vs rh hl hv h
  | true =>
    rw [hb] at h
    simp only [cond_true] at h
    obtain rfl := Nat.eq_of_beq_eq_true hb
    split at h
    · rename_i g id
      split at h
      · rename_i ver T' mid hid
        split at h
        · rename_i ver2 v xs hmid
          cases hgk : Nat.beq g fk with
          | false => rw [hgk] at h; exact h.elim
          | true =>
            rw [hgk, cond_true] at h
            obtain rfl := Nat.eq_of_beq_eq_true hgk
            obtain ⟨⟨hs1, hs2⟩, hK⟩ := h
            obtain ⟨v1, a1, b1⟩ := hv 0 _ rfl
            obtain ⟨cv, rfl, hcv⟩ : ∃ cv : List Value, v1 = .func (.func g) #[] cv.toArray ∧ LL m [.ptr id 0] cv := b1
            obtain ⟨cv1, cv2, rfl, hp, hn⟩ := hcv
            have hn : cv2 = [] := hn
            subst hn
            obtain ⟨_, b', o', h6, rfl⟩ := hp
            have hvl : vs = [.func (.func g) #[] #[.pointer (some ⟨b', o', none⟩)]] := by
              match vs, hl with
              | [p], _ => simp at a1; rw [a1]
            subst hvl
            obtain ⟨hW, _, _, ⟨bb, cs, e1, e2, e3, e4⟩, _⟩ := rh.wd hid
            rw [e3] at h6
            simp only [Value.pointer.injEq, Option.some.injEq, Addr.mk.injEq, and_true] at h6
            obtain ⟨rfl, rfl⟩ := h6
            have hbb := (hW.2 ver rfl).1 (bb, T', cs) (by rw [e1]; exact List.mem_singleton.2 rfl)
            obtain ⟨c1, c2, f0, f1, f2⟩ := e4
            obtain ⟨mv, rfl, hmv⟩ := f1.leaf_ rfl
            have f2 : c2 = [] := f2
            subst f2
            obtain ⟨b, o, g1, g2, g3⟩ := rh.mapOf hmid
            obtain ⟨_, hmv, _⟩ := hmv
            rw [g2] at hmv
            subst hmv
            have hcell : w.cell? ⟨bb, 0, none⟩ = some (.map (some b)) := (cell_of_box hbb (by rw [f0]; rfl)).1
            letI := rlT E v
            obtain ⟨es, clock, kvs, rfl, hE, hR, hnd⟩ := g3
            have hkx : kvs.map (·.1) = xs.map (·.1) := @KvR.keys _ _ _ (rlT E v) _ kvs xs hR
            have hkey : es.toList.map (·.key) = (kvs.map (·.1)).map (fun x : Int => Value.int .i64 x) := hE.keys
            have hsz : es.size = xs.length := by
              have q1 := congrArg List.length hkey
              have q2 := congrArg List.length hkx
              simp at q1 q2; omega
            let R : Value → Option (DataW Unit × List MemPlace) := fun _ => some (.nil, [])
            have hrd : ∀ x ∈ es.toList, ∃ a : Int, a ∈ xs.map (·.1) ∧ x.key = .int .i64 a ∧ WideElems.rd P T R x = some (.int .i64 a, .nil) := fun x hx => by
              have : x.key ∈ es.toList.map (·.key) := List.mem_map.2 ⟨x, hx, rfl⟩
              rw [hkey, hkx] at this
              obtain ⟨a, ha, hax⟩ := List.mem_map.1 this
              refine ⟨a, ha, hax.symm, ?_⟩
              obtain ⟨p, hp, rfl⟩ := List.mem_map.1 ha
              have hw : (Lit.int .i64 p.1).wf = true := by
                have h7 := hs2 p hp
                simp only [Lit.wf, IntKind.min, IntKind.max, IntKind.signed, IntKind.bits, Bool.and_eq_true, decide_eq_true_eq]
                simp only [if_true]; omega
              have := WideElems.rd_mk (P := P) (R := R) (key := x.key) (val := x.val) (born := x.born) (by rw [← hax]; exact Maps.keyOf_int_mk ho.ty hw) rfl
              exact this
            have hst : MapKept.Stamped es clock := ⟨hE.old, hE.nd, by
              rw [hkey, hkx]
              exact List.Pairwise.map _ (fun a b hab e => hab (by injection e)) hnd⟩
            have hFit : WideElems.Fit P T R es clock := ⟨by rw [hsz]; exact Nat.le_trans hs1 (by decide), hst, fun x hx => by obtain ⟨a, _, _, h⟩ := hrd x hx; exact ⟨_, h⟩⟩
            have hperm : (intKeys (DataW.map ((es.toList.map (WideElems.rg P T R)).foldr DataW.insert []) : DataW Unit)).Perm (xs.map (·.1)) := by
              show (List.map (fun p : Lit × DataW Unit => intOf p.1) _).Perm _
              refine ((WideShapes.sorted_perm _).map _).trans ?_
              rw [List.map_map]
              have : es.toList.map ((fun p : Lit × DataW Unit => intOf p.1) ∘ WideElems.rg P T R) = (es.toList.map (·.key)).map (fun v => match v with | .int _ a => a | _ => 0) := by
                rw [List.map_map]
                refine List.map_congr_left fun x hx => ?_
                obtain ⟨a, _, e, h⟩ := hrd x hx
                simp only [Function.comp, WideElems.rg_of h, e, intOf]
              rw [this, hkey, hkx, List.map_map]
              have e : List.map ((fun v : Value => match v with | .int _ a => a | _ => 0) ∘ fun x : Int => Value.int .i64 x) (xs.map (·.1)) = xs.map (·.1) := by
                conv => rhs; rw [← List.map_id (xs.map (·.1))]
                exact List.map_congr_left fun x _ => rfl
              rw [e]
            have hsz2 : Maps.size (DataW.map ((es.toList.map (WideElems.rg P T R)).foldr DataW.insert []) : DataW Unit) = xs.length := by
              have := hperm.length_eq
              simp [intKeys] at this
              simpa [Maps.size] using this
            refine (ho.run bb b es.size _ R w hcell (Array.getElem?_eq_some_iff.1 hbb).1 ⟨es, clock, g1, hFit, Nat.le_refl _, rfl⟩ (by rw [hsz2]; exact Nat.le_trans hs1 (by decide)) (by rw [hsz2]; omega)).mono ?_
            rintro e w' ⟨rv, ss, rfl, hss, hrow, hB⟩
            have hms : ss.mergeSort leI = isort (xs.map (·.1)) := mergeI_eq (hss.trans hperm)
            have hln : ss.length = (isort (xs.map (·.1))).length := by rw [← hms]; exact (List.mergeSort_perm ss leI).length_eq.symm
            rw [hms, hln] at hrow
            obtain ⟨bl, L, hC, hB0, hH⟩ := rh.bx
            obtain ⟨G', q1, q2, q3⟩ := ownsRow_sl hC.holds hB hrow (by rw [isort_length, List.length_map]; exact Nat.le_trans hs1 (by unfold maxL; omega))
            have u : Up m (m.g G') := Mn.g_up q1
            exact ⟨rv, rfl, s, m.g G', .sl .int (isort (List.map (fun p : Int × v.den E => p.1) xs)), u, ⟨⟨bl, L, hC.trans q2, hB0.ext q2, hH.up u⟩, rh.n, rh.bs⟩, q3, hK⟩
        · exact h.elim
      · exact h.elim
    · exact h.elim
end Go.Vz

namespace Go.Vz
open Go Go.Gx
variable {P : Program}
/-- Keys that lie in rows. -/
theorem keyL_agg {α : Type} [DecidableEq α] {kt : Nat} {cells : α → List Value} (hu0 : ∃ d, P.underlying kt = some d) (hnum : ∀ x, ∀ v ∈ cells x, isNum v = true)
    (heq : ∀ (x y : α) (w : World), (Op.equalIn 10000 kt (.agg (cells x).toArray) (.agg (cells y).toArray)).run P w = .ok (decide (x = y)) w) (hinj : ∀ x y, cells x = cells y → x = y)
    (hchk : ∀ (b : Bool) (x : α) (w : World), (Instr.checkKey b 10000 kt (.agg (cells x).toArray)).run P w = .ok () w) : KeyL P kt (fun x => .agg (cells x).toArray) where
  inj x y h := hinj x y (by simpa using h)
  chk := hchk
  stay x w := by
    have := sameBits_agg (cells x) (hnum x) 9999
    simp only [Instr.keyThatStays, this, if_true]; rfl
  find x es ks h := by
    obtain ⟨dsc, hu⟩ := hu0
    have ask : ∀ (es : List MapEntry) (ks : List α) (n : Nat), es.map (·.key) = ks.map (fun x => Value.agg (cells x).toArray) →
        (x ∉ ks ∧ ∀ w, (Instr.findAsking kt (.agg (cells x).toArray) es n).run P w = .ok none w) ∨ ∃ i e, ks[i]? = some x ∧ (∀ j, j < i → ks[j]? ≠ some x) ∧ es[i]? = some e ∧ ∀ w, (Instr.findAsking kt (.agg (cells x).toArray) es n).run P w = .ok (some (n + i, e.val)) w := by
      intro es
      induction es with
      | nil => intro ks n h; cases ks with | nil => exact .inl ⟨by simp, fun w => by simp [Instr.findAsking]⟩ | cons _ _ => simp at h
      | cons e es ih =>
        intro ks n h
        cases ks with
        | nil => simp at h
        | cons k ks =>
          simp only [List.map_cons, List.cons.injEq] at h
          obtain ⟨h1, h2⟩ := h
          have hq : ∀ w, (Op.equal kt (.agg (cells x).toArray) e.key).run P w = .ok (decide (x = k)) w := fun w => by rw [h1]; exact heq x k w
          by_cases hx : x = k
          · subst hx
            refine .inr ⟨0, e, by simp, fun j hj => by omega, by simp, fun w => ?_⟩
            have := hq w
            simp only [decide_true] at this
            simp [Instr.findAsking, this]
          · have hs : ∀ w, (Instr.findAsking kt (.agg (cells x).toArray) (e :: es) n).run P w = (Instr.findAsking kt (.agg (cells x).toArray) es (n + 1)).run P w := fun w => by
              have := hq w
              simp only [hx, decide_false] at this
              simp [Instr.findAsking, this]
            rcases ih ks (n + 1) h2 with ⟨a, b⟩ | ⟨i, e', a, b, c, d⟩
            · exact .inl ⟨by simp [a, hx], fun w => (hs w).trans (b w)⟩
            · refine .inr ⟨i + 1, e', by simpa using a, fun j hj => ?_, by simpa using c, fun w => by rw [hs, d w]; congr 3; omega⟩
              cases j with
              | zero => simp; exact fun h => hx h.symm
              | succ j => simpa using b j (by omega)
    have hnow : ∀ w, (Instr.findKey kt (.agg (cells x).toArray) es).run P w = (Instr.findAsking kt (.agg (cells x).toArray) es 0).run P w ∨ (es = [] ∧ (Instr.findKey kt (.agg (cells x).toArray) es).run P w = .ok none w) := by
      intro w
      cases es with
      | nil => exact .inr ⟨rfl, by simp [Instr.findKey, run_underlying hu, Instr.findNow]⟩
      | cons e es =>
        refine .inl ?_
        have : Instr.findNow dsc (.agg (cells x).toArray) (e :: es) 0 = none := by cases dsc <;> simp [Instr.findNow, Instr.sameNow]
        simp [Instr.findKey, run_underlying hu, this]
    rcases ask es ks 0 h with ⟨a, b⟩ | ⟨i, e, a, b, c, d⟩
    · refine .inl ⟨a, fun w => ?_⟩
      rcases hnow w with h1 | ⟨_, h1⟩
      · rw [h1]; exact b w
      · exact h1
    · refine .inr ⟨i, e, a, b, c, fun w => ?_⟩
      rcases hnow w with h1 | ⟨rfl, _⟩
      · rw [h1, d w, Nat.zero_add]
      · simp at c
theorem cells_num (d : Dig) : ∀ v ∈ d.cells, isNum v = true := by simp [Dig.cells, isNum]
theorem cells_inj {a b : Dig} (h : a.cells = b.cells) : a = b := by
  obtain ⟨l, hl⟩ := a; obtain ⟨k, hk⟩ := b
  have : l = k := by
    simp only [Dig.cells] at h
    clear hl hk
    induction l generalizing k with
    | nil => cases k with | nil => rfl | cons _ _ => simp at h
    | cons x l ih =>
      cases k with
      | nil => simp at h
      | cons y k =>
        simp only [List.map_cons, List.cons.injEq, Value.int.injEq, true_and] at h
        rw [ih k h.2, UInt8.toNat_inj.1 (show x.toNat = y.toNat by omega)]
  subst this; rfl
theorem keyL_dig {kt : Nat} (hb : bytes32 P kt = true) : KeyL P kt (fun d : Dig => .agg d.cells.toArray) := by
  have hb0 := hb
  unfold bytes32 at hb
  split at hb
  · rename_i e hu
    simp only [Bool.and_eq_true] at hb
    obtain ⟨h1, h2⟩ := hb
    have hint : P.underlying e = some (.int .u8) := by split at h1 <;> first | assumption | cases h1
    have hsz : (P.info? e).map (·.size) = some 1 := by
      split at h2
      · rename_i i hi; rw [hi]; simp [Nat.eq_of_beq_eq_true h2]
      · cases h2
    exact keyL_agg ⟨_, hu⟩ cells_num (fun x y w => run_equalIn_dig hb0 x y w) (fun _ _ => cells_inj) fun b x w => checkKey_array hu hint (by simp [oneOk, hint]) hsz b 9998 _ (by simp) w
  · cases hb
theorem keyL_str {kt : Nat} (hk : P.underlying kt = some .string) : KeyL P kt strV where
  inj x y h := by simpa [strV] using h
  chk b x w := MapKept.run_checkKey hk (by trivial) b 9999
  stay x w := MapKept.run_keyThatStays (d := .string) (by trivial)
  find x es ks h := by
    have key : ∀ (es : List MapEntry) (ks : List (List UInt8)) (n : Nat), es.map (·.key) = ks.map strV →
        (x ∉ ks ∧ Instr.findNow .string (strV x) es n = some none) ∨ ∃ i e, ks[i]? = some x ∧ (∀ j, j < i → ks[j]? ≠ some x) ∧ es[i]? = some e ∧ Instr.findNow .string (strV x) es n = some (some (n + i, e.val)) := by
      intro es
      induction es with
      | nil => intro ks n h; cases ks with | nil => exact .inl ⟨by simp, rfl⟩ | cons _ _ => simp at h
      | cons e es ih =>
        intro ks n h
        cases ks with
        | nil => simp at h
        | cons k ks =>
          simp only [List.map_cons, List.cons.injEq] at h
          obtain ⟨h1, h2⟩ := h
          have hs : Instr.sameNow .string (strV x) e.key = some (decide (x = k)) := by
            rw [h1]
            simp only [strV, Instr.sameNow, Option.some.injEq]
            rw [Bool.eq_iff_iff, MapKept.bytes_beq, decide_eq_true_eq]
            simp
          by_cases hx : x = k
          · subst hx
            refine .inr ⟨0, e, by simp, fun j hj => by omega, by simp, ?_⟩
            simp [Instr.findNow, hs]
          · have hs : Instr.findNow .string (strV x) (e :: es) n = Instr.findNow .string (strV x) es (n + 1) := by
              simp [Instr.findNow, hs, hx]
            rw [hs]
            rcases ih ks (n + 1) h2 with ⟨a, b⟩ | ⟨i, e', a, b, c, d⟩
            · exact .inl ⟨by simp [a, hx], b⟩
            · refine .inr ⟨i + 1, e', by simpa using a, fun j hj => ?_, by simpa using c, by rw [d]; congr 3; omega⟩
              cases j with
              | zero => simp; exact fun h => hx h.symm
              | succ j => simpa using b j (by omega)
    rcases key es ks 0 h with ⟨a, b⟩ | ⟨i, e, a, b, c, d⟩
    · exact .inl ⟨a, fun w => MapKept.run_findKey hk b⟩
    · exact .inr ⟨i, e, a, b, c, fun w => by rw [MapKept.run_findKey hk d, Nat.zero_add]⟩
variable {E : DE}
def chk1 (P : Program) (t : Nat) : SV E → Bool
  | .i _ _ => (match P.underlying t with | some (.int _) => true | _ => false) && oneOk P t
  | .dig _ => bytes32 P t && rowOk P t 32
  | _ => false
def chkF (P : Program) : List (Nat × Nat) → List (SV E) → Nat → Bool
  | [], [], _ => true
  | (t, off) :: L, x :: l, o => Nat.beq off o && (chk1 P t x && chkF P L l (o + x.w))
  | _, _, _ => false
theorem chkF_ok {m : Mn E} {xs : List Value} : ∀ {L : List (Nat × Nat)} {l : List (SV E)} {o : Nat}, chkF P L l o = true → RC m l (xs.drop o) → ∀ p ∈ L, ∃ v, (∀ w, (part p.1 xs.toArray p.2).run P w = .ok v w) ∧ ∀ em n w, (Instr.checkKey em (n + 2) p.1 v).run P w = .ok () w
  | [], _, _, _, _, p, hp => by cases hp
  | (t, off) :: L, [], _, h, _, _, _ => by simp [chkF] at h
  | (t, off) :: L, x :: l, o, h, ⟨c1, c2, e, h1, h2⟩, p, hp => by
    simp only [chkF, Bool.and_eq_true] at h
    obtain ⟨h3, h4, h5⟩ := h
    have := Nat.eq_of_beq_eq_true h3
    subst this
    rcases List.mem_cons.1 hp with rfl | hp
    · cases x <;> simp only [chk1, Bool.and_eq_true] at h4 <;> try (cases h4; done)
      · rename_i kk nn
        obtain ⟨v, rfl, h1⟩ := h1
        have h1 : v = _ := h1
        subst h1
        have hat : xs.toArray[off]? = some (.int kk nn) := by
          have := congrArg (·[0]?) e
          simpa using this
        refine ⟨_, fun w => run_part_one h4.2 hat w, fun em n w => ?_⟩
        obtain ⟨k, hk⟩ : ∃ k, P.underlying t = some (.int k) := by
          have := h4.1
          split at this
          · exact ⟨_, by assumption⟩
          · cases this
        exact checkKey_int hk em (n + 1) _ w
      · rename_i d
        have h1 : c1 = d.cells := h1
        subst h1
        have hl := d.length_cells
        refine ⟨.agg d.cells.toArray, fun w => ?_, fun em n w => ?_⟩
        · rw [run_part_row h4.2]
          congr 2
          rw [List.extract_toArray]
          congr 1
          simp only [List.extract_eq_take_drop, Nat.add_sub_cancel_left]
          rw [e, List.take_append_of_le_length (by simp), List.take_of_length_le (by simp)]
        · have hb := h4.1
          unfold bytes32 at hb
          split at hb
          · rename_i el hu
            simp only [Bool.and_eq_true] at hb
            obtain ⟨g1, g2⟩ := hb
            have hint : P.underlying el = some (.int .u8) := by split at g1 <;> first | assumption | cases g1
            have hsz : (P.info? el).map (·.size) = some 1 := by
              split at g2
              · rename_i i hi; rw [hi]; simp [Nat.eq_of_beq_eq_true g2]
              · cases g2
            exact checkKey_array hu hint (by simp [oneOk, hint]) hsz em n _ (by simp) w
          · cases hb
    · refine chkF_ok h5 (m := m) ?_ p hp
      have : xs.drop (off + x.w) = c2 := by rw [← List.drop_drop, e, ← h1.len]; simp
      rw [this]; exact h2
/-- Keys that are structs of numbers and digests. -/
theorem keyL_st {α : Type} [DecidableEq α] {kt : Nat} {cells : α → List Value} {fl : α → List (SV E)} (hfl : ∀ (m : Mn E) (x : α), RC m (fl x) (cells x))
    (hck : ∀ x, (fieldsAre P kt (fieldsL P kt) && chkF P (fieldsL P kt) (fl x) 0) = true) (heq : ∀ x y, ∃ r, eqSV P [] kt (fl x) (fl y) = some r ∧ r = decide (x = y))
    (hnum : ∀ x, ∀ v ∈ cells x, isNum v = true) (hinj : ∀ x y, cells x = cells y → x = y) (hst : fieldsAre P kt (fieldsL P kt) = true) : KeyL P kt (fun x => .agg (cells x).toArray) := by
  have hu : ∃ d, P.underlying kt = some d := by
    unfold fieldsAre at hst
    split at hst
    · exact ⟨_, by assumption⟩
    · cases hst
  have m0 : Mn E := ⟨fun _ => none, fun _ => undef, 0, [], fun _ => .oth, fun _ => [], fun _ => []⟩
  refine keyL_agg hu hnum (fun x y w => ?_) hinj fun b x w => ?_
  · obtain ⟨r, h1, h2⟩ := heq x y
    rw [← h2]
    exact (eqSV_ok (m := ⟨fun _ => none, fun _ => undef, 0, [], fun _ => .oth, fun _ => [], fun _ => []⟩) h1 (hfl _ x) (hfl _ y)).1 w
  · have h := hck x
    rw [Bool.and_eq_true] at h
    refine checkKey_struct h.1 b 9999 w fun p hp => ?_
    obtain ⟨v, h1, h2⟩ := chkF_ok h.2 (m := m0) (xs := cells x) (hfl m0 x) p hp
    exact ⟨v, h1 w, h2 b 9997 w⟩
end Go.Vz
