/- Walks by reckoning: keys of maps. No condition. -/
import Derived.Test.YtpbcabanpppfoaaGreatVzOnce
import Derived.Test.YtpbcabanpppfoaaGreatGxPtr
set_option linter.all false
namespace Go.Vz
open Go Go.Gx
variable {P : Program}
/-- Keys that lie in rows. -/
theorem keyL_agg {α : Type} [DecidableEq α] {kt : Nat} {cells : α → List Value} (hu0 : ∃ d, P.underlying kt = some d) (hnum : ∀ x, ∀ v ∈ cells x, isNum v = true)
    (heq : ∀ (x y : α) (w : World), (Op.equalIn 10000 kt (.agg (cells x).toArray) (.agg (cells y).toArray)).run P w = .ok (decide (x = y)) w) (hinj : ∀ x y, cells x = cells y → x = y)
    (hchk : ∀ (b : Bool) (x : α) (w : World), (Instr.checkKey b 10000 kt (.agg (cells x).toArray)).run P w = .ok () w) : KeyL P kt (fun x => .agg (cells x).toArray) where
  inj x y h := hinj x y (by simpa using h)
  chk := hchk
  stay x w := by
    have := sameBits_agg (cells x) (hnum x) 9999
    simp only [Instr.keyThatStays, this, if_true]; rfl
  find x es ks h := by
    obtain ⟨dsc, hu⟩ := hu0
    have ask : ∀ (es : List MapEntry) (ks : List α) (n : Nat), es.map (·.key) = ks.map (fun x => Value.agg (cells x).toArray) →
        (x ∉ ks ∧ ∀ w, (Instr.findAsking kt (.agg (cells x).toArray) es n).run P w = .ok none w) ∨ ∃ i e, ks[i]? = some x ∧ (∀ j, j < i → ks[j]? ≠ some x) ∧ es[i]? = some e ∧ ∀ w, (Instr.findAsking kt (.agg (cells x).toArray) es n).run P w = .ok (some (n + i, e.val)) w := by
      intro es
      induction es with
      | nil => intro ks n h; cases ks with | nil => exact .inl ⟨by simp, fun w => by simp [Instr.findAsking]⟩ | cons _ _ => simp at h
      | cons e es ih =>
        intro ks n h
        cases ks with
        | nil => simp at h
        | cons k ks =>
          simp only [List.map_cons, List.cons.injEq] at h
          obtain ⟨h1, h2⟩ := h
          have hq : ∀ w, (Op.equal kt (.agg (cells x).toArray) e.key).run P w = .ok (decide (x = k)) w := fun w => by rw [h1]; exact heq x k w
          by_cases hx : x = k
          · subst hx
            refine .inr ⟨0, e, by simp, fun j hj => by omega, by simp, fun w => ?_⟩
            have := hq w
            simp only [decide_true] at this
            simp [Instr.findAsking, this]
          · have hs : ∀ w, (Instr.findAsking kt (.agg (cells x).toArray) (e :: es) n).run P w = (Instr.findAsking kt (.agg (cells x).toArray) es (n + 1)).run P w := fun w => by
              have := hq w
              simp only [hx, decide_false] at this
              simp [Instr.findAsking, this]
            rcases ih ks (n + 1) h2 with ⟨a, b⟩ | ⟨i, e', a, b, c, d⟩
            · exact .inl ⟨by simp [a, hx], fun w => (hs w).trans (b w)⟩
            · refine .inr ⟨i + 1, e', by simpa using a, fun j hj => ?_, by simpa using c, fun w => by rw [hs, d w]; congr 3; omega⟩
              cases j with
              | zero => simp; exact fun h => hx h.symm
              | succ j => simpa using b j (by omega)
    have hnow : ∀ w, (Instr.findKey kt (.agg (cells x).toArray) es).run P w = (Instr.findAsking kt (.agg (cells x).toArray) es 0).run P w ∨ (es = [] ∧ (Instr.findKey kt (.agg (cells x).toArray) es).run P w = .ok none w) := by
      intro w
      cases es with
      | nil => exact .inr ⟨rfl, by simp [Instr.findKey, run_underlying hu, Instr.findNow]⟩
      | cons e es =>
        refine .inl ?_
        have : Instr.findNow dsc (.agg (cells x).toArray) (e :: es) 0 = none := by cases dsc <;> simp [Instr.findNow, Instr.sameNow]
        simp [Instr.findKey, run_underlying hu, this]
    rcases ask es ks 0 h with ⟨a, b⟩ | ⟨i, e, a, b, c, d⟩
    · refine .inl ⟨a, fun w => ?_⟩
      rcases hnow w with h1 | ⟨_, h1⟩
      · rw [h1]; exact b w
      · exact h1
    · refine .inr ⟨i, e, a, b, c, fun w => ?_⟩
      rcases hnow w with h1 | ⟨rfl, _⟩
      · rw [h1, d w, Nat.zero_add]
      · simp at c
theorem cells_num (d : Dig) : ∀ v ∈ d.cells, isNum v = true := by simp [Dig.cells, isNum]
theorem cells_inj {a b : Dig} (h : a.cells = b.cells) : a = b := by
  obtain ⟨l, hl⟩ := a; obtain ⟨k, hk⟩ := b
  have : l = k := by
    simp only [Dig.cells] at h
    clear hl hk
    induction l generalizing k with
    | nil => cases k with | nil => rfl | cons _ _ => simp at h
    | cons x l ih =>
      cases k with
      | nil => simp at h
      | cons y k =>
        simp only [List.map_cons, List.cons.injEq, Value.int.injEq, true_and] at h
        rw [ih k h.2, UInt8.toNat_inj.1 (show x.toNat = y.toNat by omega)]
  subst this; rfl
theorem keyL_dig {kt : Nat} (hb : bytes32 P kt = true) : KeyL P kt (fun d : Dig => .agg d.cells.toArray) := by
  have hb0 := hb
  unfold bytes32 at hb
  split at hb
  · rename_i e hu
    simp only [Bool.and_eq_true] at hb
    obtain ⟨h1, h2⟩ := hb
    have hint : P.underlying e = some (.int .u8) := by split at h1 <;> first | assumption | cases h1
    have hsz : (P.info? e).map (·.size) = some 1 := by
      split at h2
      · rename_i i hi; rw [hi]; simp [Nat.eq_of_beq_eq_true h2]
      · cases h2
    exact keyL_agg ⟨_, hu⟩ cells_num (fun x y w => run_equalIn_dig hb0 x y w) (fun _ _ => cells_inj) fun b x w => checkKey_array hu hint (by simp [oneOk, hint]) hsz b 9998 _ (by simp) w
  · cases hb
theorem keyL_str {kt : Nat} (hk : P.underlying kt = some .string) : KeyL P kt strV where
  inj x y h := by simpa [strV] using h
  chk b x w := MapKept.run_checkKey hk (by trivial) b 9999
  stay x w := MapKept.run_keyThatStays (d := .string) (by trivial)
  find x es ks h := by
    have key : ∀ (es : List MapEntry) (ks : List (List UInt8)) (n : Nat), es.map (·.key) = ks.map strV →
        (x ∉ ks ∧ Instr.findNow .string (strV x) es n = some none) ∨ ∃ i e, ks[i]? = some x ∧ (∀ j, j < i → ks[j]? ≠ some x) ∧ es[i]? = some e ∧ Instr.findNow .string (strV x) es n = some (some (n + i, e.val)) := by
      intro es
      induction es with
      | nil => intro ks n h; cases ks with | nil => exact .inl ⟨by simp, rfl⟩ | cons _ _ => simp at h
      | cons e es ih =>
        intro ks n h
        cases ks with
        | nil => simp at h
        | cons k ks =>
          simp only [List.map_cons, List.cons.injEq] at h
          obtain ⟨h1, h2⟩ := h
          have hs : Instr.sameNow .string (strV x) e.key = some (decide (x = k)) := by
            rw [h1]
            simp only [strV, Instr.sameNow, Option.some.injEq]
            rw [Bool.eq_iff_iff, MapKept.bytes_beq, decide_eq_true_eq]
            simp
          by_cases hx : x = k
          · subst hx
            refine .inr ⟨0, e, by simp, fun j hj => by omega, by simp, ?_⟩
            simp [Instr.findNow, hs]
          · have hs : Instr.findNow .string (strV x) (e :: es) n = Instr.findNow .string (strV x) es (n + 1) := by
              simp [Instr.findNow, hs, hx]
            rw [hs]
            rcases ih ks (n + 1) h2 with ⟨a, b⟩ | ⟨i, e', a, b, c, d⟩
            · exact .inl ⟨by simp [a, hx], b⟩
            · refine .inr ⟨i + 1, e', by simpa using a, fun j hj => ?_, by simpa using c, by rw [d]; congr 3; omega⟩
              cases j with
              | zero => simp; exact fun h => hx h.symm
              | succ j => simpa using b j (by omega)
    rcases key es ks 0 h with ⟨a, b⟩ | ⟨i, e, a, b, c, d⟩
    · exact .inl ⟨a, fun w => MapKept.run_findKey hk b⟩
    · exact .inr ⟨i, e, a, b, c, fun w => by rw [MapKept.run_findKey hk d, Nat.zero_add]⟩
variable {E : DE}
def chk1 (P : Program) (t : Nat) : SV E → Bool
  | .i _ _ => (match P.underlying t with | some (.int _) => true | _ => false) && oneOk P t
  | .dig _ => bytes32 P t && rowOk P t 32
  | _ => false
def chkF (P : Program) : List (Nat × Nat) → List (SV E) → Nat → Bool
  | [], [], _ => true
  | (t, off) :: L, x :: l, o => Nat.beq off o && (chk1 P t x && chkF P L l (o + x.w))
  | _, _, _ => false
theorem chkF_ok {m : Mn E} {xs : List Value} : ∀ {L : List (Nat × Nat)} {l : List (SV E)} {o : Nat}, chkF P L l o = true → RC m l (xs.drop o) → ∀ p ∈ L, ∃ v, (∀ w, (part p.1 xs.toArray p.2).run P w = .ok v w) ∧ ∀ em n w, (Instr.checkKey em (n + 2) p.1 v).run P w = .ok () w
  | [], _, _, _, _, p, hp => by cases hp
  | (t, off) :: L, [], _, h, _, _, _ => by simp [chkF] at h
  | (t, off) :: L, x :: l, o, h, ⟨c1, c2, e, h1, h2⟩, p, hp => by
    simp only [chkF, Bool.and_eq_true] at h
    obtain ⟨h3, h4, h5⟩ := h
    have := Nat.eq_of_beq_eq_true h3
    subst this
    rcases List.mem_cons.1 hp with rfl | hp
    · cases x <;> simp only [chk1, Bool.and_eq_true] at h4 <;> try (cases h4; done)
      · rename_i kk nn
        obtain ⟨v, rfl, h1⟩ := h1
        have h1 : v = _ := h1
        subst h1
        have hat : xs.toArray[off]? = some (.int kk nn) := by
          have := congrArg (·[0]?) e
          simpa using this
        refine ⟨_, fun w => run_part_one h4.2 hat w, fun em n w => ?_⟩
        obtain ⟨k, hk⟩ : ∃ k, P.underlying t = some (.int k) := by
          have := h4.1
          split at this
          · exact ⟨_, by assumption⟩
          · cases this
        exact checkKey_int hk em (n + 1) _ w
      · rename_i d
        have h1 : c1 = d.cells := h1
        subst h1
        have hl := d.length_cells
        refine ⟨.agg d.cells.toArray, fun w => ?_, fun em n w => ?_⟩
        · rw [run_part_row h4.2]
          congr 2
          rw [List.extract_toArray]
          congr 1
          simp only [List.extract_eq_take_drop, Nat.add_sub_cancel_left]
          rw [e, List.take_append_of_le_length (by simp), List.take_of_length_le (by simp)]
        · have hb := h4.1
          unfold bytes32 at hb
          split at hb
          · rename_i el hu
            simp only [Bool.and_eq_true] at hb
            obtain ⟨g1, g2⟩ := hb
            have hint : P.underlying el = some (.int .u8) := by split at g1 <;> first | assumption | cases g1
            have hsz : (P.info? el).map (·.size) = some 1 := by
              split at g2
              · rename_i i hi; rw [hi]; simp [Nat.eq_of_beq_eq_true g2]
              · cases g2
            exact checkKey_array hu hint (by simp [oneOk, hint]) hsz em n _ (by simp) w
          · cases hb
    · refine chkF_ok h5 (m := m) ?_ p hp
      have : xs.drop (off + x.w) = c2 := by rw [← List.drop_drop, e, ← h1.len]; simp
      rw [this]; exact h2
/-- Keys that are structs of numbers and digests. -/
theorem keyL_st {α : Type} [DecidableEq α] {kt : Nat} {cells : α → List Value} {fl : α → List (SV E)} (hfl : ∀ (m : Mn E) (x : α), RC m (fl x) (cells x))
    (hck : ∀ x, (fieldsAre P kt (fieldsL P kt) && chkF P (fieldsL P kt) (fl x) 0) = true) (heq : ∀ x y, ∃ r, eqSV P [] kt (fl x) (fl y) = some r ∧ r = decide (x = y))
    (hnum : ∀ x, ∀ v ∈ cells x, isNum v = true) (hinj : ∀ x y, cells x = cells y → x = y) (hst : fieldsAre P kt (fieldsL P kt) = true) : KeyL P kt (fun x => .agg (cells x).toArray) := by
  have hu : ∃ d, P.underlying kt = some d := by
    unfold fieldsAre at hst
    split at hst
    · exact ⟨_, by assumption⟩
    · cases hst
  have m0 : Mn E := ⟨fun _ => none, fun _ => undef, 0, [], fun _ => .oth, fun _ => [], fun _ => []⟩
  refine keyL_agg hu hnum (fun x y w => ?_) hinj fun b x w => ?_
  · obtain ⟨r, h1, h2⟩ := heq x y
    rw [← h2]
    exact (eqSV_ok (m := ⟨fun _ => none, fun _ => undef, 0, [], fun _ => .oth, fun _ => [], fun _ => []⟩) h1 (hfl _ x) (hfl _ y)).1 w
  · have h := hck x
    rw [Bool.and_eq_true] at h
    refine checkKey_struct h.1 b 9999 w fun p hp => ?_
    obtain ⟨v, h1, h2⟩ := chkF_ok h.2 (m := m0) (xs := cells x) (hfl m0 x) p hp
    exact ⟨v, h1 w, h2 b 9997 w⟩
end Go.Vz
