/- Maps that turn, kept track of apart from the boxes: looked up, stored into, ranged over; objects handed over to calls and back. No condition. -/
import Derived.Test.YtpbcabanpppfoaaGreatGxObj
import Derived.Maps.RangeRun
set_option linter.all false
namespace Go.Gx
open Go Go.RowKit
open Go.ChangeMaps (setBlock)
set_option linter.unusedSectionVars false
variable {M : Mu} {κ : Type} [DecidableEq κ] {β : Type}

/-- What stands for a value of one cell, or of one row. -/
class Rl (α : Type) where
  Is1 : Gh → Value → α → Prop
  mono1 : ∀ {G G' : Gh} {v x}, GLe G G' → Is1 G v x → Is1 G' v x
instance (priority := low) {α : Type} [Rp α] : Rl α := ⟨fun G v x => Rp.Is G [v] x, fun hg h => Rp.mono hg h⟩
/-- The first value at a key. -/
def mget : List (κ × β) → κ → Option β
  | [], _ => none
  | p :: r, x => if p.1 = x then some p.2 else mget r x
/-- A value stored at a key. -/
def mput : List (κ × β) → κ → β → List (κ × β)
  | [], x, v => [(x, v)]
  | p :: r, x, v => if p.1 = x then (x, v) :: r else p :: mput r x v
/-- How keys of a type lie, and are told apart. -/
structure KeyL (P : Program) (kt : Nat) (enc : κ → Value) : Prop where
  inj : ∀ x y, enc x = enc y → x = y
  chk : ∀ (b : Bool) (x : κ) (w : World), (Instr.checkKey b 10000 kt (enc x)).run P w = .ok () w
  stay : ∀ (x : κ) (w : World), (Instr.keyThatStays (enc x) (enc x)).run P w = .ok (enc x) w
  find : ∀ (x : κ) (es : List MapEntry) (ks : List κ), es.map (·.key) = ks.map enc →
    (x ∉ ks ∧ ∀ w, (Instr.findKey kt (enc x) es).run P w = .ok none w) ∨ ∃ i e, ks[i]? = some x ∧ (∀ j, j < i → ks[j]? ≠ some x) ∧ es[i]? = some e ∧ ∀ w, (Instr.findKey kt (enc x) es).run P w = .ok (some (i, e.val)) w
def mapKV (P : Program) (t kt et : Nat) : Bool := match P.underlying t with | some (.map k e) => Nat.beq k kt && Nat.beq e et | _ => false
theorem mapKV_of {P : Program} {t kt et : Nat} (h : mapKV P t kt et = true) : P.underlying t = some (.map kt et) := by
  unfold mapKV at h
  split at h
  · rename_i hu
    rw [Bool.and_eq_true] at h
    rw [hu, Nat.eq_of_beq_eq_true h.1, Nat.eq_of_beq_eq_true h.2]
  · cases h
theorem keyL_int {P : Program} {kt : Nat} (hk : P.underlying kt = some (.int .i64)) : KeyL P kt (fun x : Int => Value.int .i64 x) where
  inj x y h := by simpa using h
  chk b x w := MapKept.run_checkKey hk (by trivial) b 9999
  stay x w := MapKept.run_keyThatStays (d := .int .i64) (by trivial)
  find x es ks h := by
    have key : ∀ (es : List MapEntry) (ks : List Int) (n : Nat), es.map (·.key) = ks.map (fun x : Int => Value.int .i64 x) →
        (x ∉ ks ∧ Instr.findNow (.int .i64) (.int .i64 x) es n = some none) ∨ ∃ i e, ks[i]? = some x ∧ (∀ j, j < i → ks[j]? ≠ some x) ∧ es[i]? = some e ∧ Instr.findNow (.int .i64) (.int .i64 x) es n = some (some (n + i, e.val)) := by
      intro es
      induction es with
      | nil => intro ks n h; cases ks with | nil => exact .inl ⟨by simp, rfl⟩ | cons _ _ => simp at h
      | cons e es ih =>
        intro ks n h
        cases ks with
        | nil => simp at h
        | cons k ks =>
          simp only [List.map_cons, List.cons.injEq] at h
          obtain ⟨h1, h2⟩ := h
          by_cases hx : x = k
          · subst hx
            refine .inr ⟨0, e, by simp, fun j hj => by omega, by simp, ?_⟩
            simp [Instr.findNow, h1, Instr.sameNow]
          · have hs : Instr.findNow (.int .i64) (.int .i64 x) (e :: es) n = Instr.findNow (.int .i64) (.int .i64 x) es (n + 1) := by
              have : (x == k) = false := by simpa using hx
              simp [Instr.findNow, h1, Instr.sameNow, this]
            rw [hs]
            rcases ih ks (n + 1) h2 with ⟨a, b⟩ | ⟨i, e', a, b, c, d⟩
            · exact .inl ⟨by simp [a, hx], b⟩
            · refine .inr ⟨i + 1, e', by simpa using a, fun j hj => ?_, by simpa using c, by rw [d]; congr 3; omega⟩
              cases j with
              | zero => simp; exact fun h => hx h.symm
              | succ j => simpa using b j (by omega)
    rcases key es ks 0 h with ⟨a, b⟩ | ⟨i, e, a, b, c, d⟩
    · exact .inl ⟨a, fun w => MapKept.run_findKey hk b⟩
    · exact .inr ⟨i, e, a, b, c, fun w => by rw [MapKept.run_findKey hk d, Nat.zero_add]⟩

/-! ### The block of a map -/
structure EsOf (enc : κ → Value) (es : Array MapEntry) (clock : Nat) (kvs : List (κ × Value)) : Prop where
  kv : es.toList.map (fun e => (e.key, e.val)) = kvs.map (fun p => (enc p.1, p.2))
  old : ∀ e ∈ es.toList, e.born < clock
  nd : (es.toList.map (·.born)).Nodup
theorem EsOf.keys {enc : κ → Value} {es : Array MapEntry} {clock : Nat} {kvs : List (κ × Value)} (h : EsOf enc es clock kvs) : es.toList.map (·.key) = (kvs.map (·.1)).map enc := by
  have := congrArg (List.map Prod.fst) h.kv
  simpa [List.map_map, Function.comp_def] using this
theorem mget_none : ∀ {kvs : List (κ × β)} {x : κ}, x ∉ kvs.map (·.1) → mget kvs x = none
  | [], _, _ => rfl
  | p :: r, x, h => by
    simp only [List.map_cons, List.mem_cons, not_or] at h
    rw [mget, if_neg (fun e => h.1 e.symm)]
    exact mget_none h.2
theorem mget_at : ∀ {kvs : List (κ × β)} {x : κ} {i : Nat} {p : κ × β}, kvs[i]? = some p → p.1 = x → (∀ j, j < i → (kvs.map (·.1))[j]? ≠ some x) → mget kvs x = some p.2
  | [], _, i, _, h, _, _ => by simp at h
  | q :: r, x, 0, p, h, hp, _ => by simp at h; subst h; simp [mget, hp]
  | q :: r, x, i + 1, p, h, hp, hj => by
    have h0 : q.1 ≠ x := by have := hj 0 (by omega); simpa using this
    rw [mget, if_neg h0]
    exact mget_at (i := i) (by simpa using h) hp (fun j hj' => by have := hj (j + 1) (by omega); simpa using this)
theorem mput_none : ∀ {kvs : List (κ × β)} {x : κ} {v : β}, x ∉ kvs.map (·.1) → mput kvs x v = kvs ++ [(x, v)]
  | [], _, _, _ => rfl
  | p :: r, x, v, h => by
    simp only [List.map_cons, List.mem_cons, not_or] at h
    rw [mput, if_neg (fun e => h.1 e.symm), mput_none h.2]; rfl
theorem mput_at : ∀ {kvs : List (κ × β)} {x : κ} {v : β} {i : Nat}, (kvs.map (·.1))[i]? = some x → (∀ j, j < i → (kvs.map (·.1))[j]? ≠ some x) → mput kvs x v = kvs.set i (x, v)
  | [], _, _, i, h, _ => by simp at h
  | q :: r, x, v, 0, h, _ => by simp at h; simp [mput, h]
  | q :: r, x, v, i + 1, h, hj => by
    have h0 : q.1 ≠ x := by have := hj 0 (by omega); simpa using this
    rw [mput, if_neg h0, List.set_cons_succ, mput_at (i := i) (by simpa using h) (fun j hj' => by have := hj (j + 1) (by omega); simpa using this)]
theorem mput_keys {l : List (κ × β)} {x : κ} {v : β} (h : x ∈ l.map (·.1)) : (mput l x v).map (·.1) = l.map (·.1) := by
  induction l with
  | nil => simp at h
  | cons p r ih =>
    by_cases hp : p.1 = x
    · simp [mput, hp]
    · have : x ∈ r.map (·.1) := by
        rw [List.map_cons, List.mem_cons] at h
        exact h.elim (fun e => absurd e.symm hp) id
      simp [mput, hp, ih this]
theorem mput_nodup {l : List (κ × β)} (x : κ) (v : β) (h : (l.map (·.1)).Nodup) : ((mput l x v).map (·.1)).Nodup := by
  by_cases hx : x ∈ l.map (·.1)
  · rw [mput_keys hx]; exact h
  · rw [mput_none hx, List.map_append, List.nodup_append]
    refine ⟨h, by simp, fun a ha b hb => ?_⟩
    have : b = x := by simpa using hb
    subst this
    rintro rfl; exact hx ha
theorem mget_nodup {l : List (κ × β)} {i : Nat} {p : κ × β} (hn : (l.map (·.1)).Nodup) (h : l[i]? = some p) : mget l p.1 = some p.2 := by
  induction l generalizing i with
  | nil => simp at h
  | cons q r ih =>
    rw [List.map_cons, List.nodup_cons] at hn
    cases i with
    | zero => simp at h; subst h; simp [mget]
    | succ i =>
      have hr : r[i]? = some p := by simpa using h
      have : q.1 ≠ p.1 := fun e => hn.1 (by rw [e]; exact List.mem_map.2 ⟨p, List.mem_of_getElem? hr, rfl⟩)
      rw [mget, if_neg this]; exact ih hn.2 hr
/-- Values at keys, as they read. -/
def KvR [Rl β] (G : Gh) : List (κ × Value) → List (κ × β) → Prop
  | [], [] => True
  | p :: r, q :: s => p.1 = q.1 ∧ Rl.Is1 G p.2 q.2 ∧ KvR G r s
  | _, _ => False
section
variable [Rl β] {G G' : Gh}
theorem KvR.mono (hg : GLe G G') : ∀ {a : List (κ × Value)} {b : List (κ × β)}, KvR G a b → KvR G' a b
  | [], [], _ => trivial
  | _ :: _, _ :: _, h => ⟨h.1, Rl.mono1 hg h.2.1, h.2.2.mono hg⟩
  | [], _ :: _, h => h.elim
  | _ :: _, [], h => h.elim
theorem KvR.keys : ∀ {a : List (κ × Value)} {b : List (κ × β)}, KvR G a b → a.map (·.1) = b.map (·.1)
  | [], [], _ => rfl
  | _ :: _, _ :: _, h => by rw [List.map_cons, List.map_cons, h.1, h.2.2.keys]
  | [], _ :: _, h => h.elim
  | _ :: _, [], h => h.elim
theorem KvR.get : ∀ {a : List (κ × Value)} {b : List (κ × β)}, KvR G a b → ∀ (x : κ), (mget a x = none ∧ mget b x = none) ∨ ∃ v y, mget a x = some v ∧ mget b x = some y ∧ Rl.Is1 G v y
  | [], [], _, _ => .inl ⟨rfl, rfl⟩
  | p :: r, q :: s, h, x => by
    by_cases hp : p.1 = x
    · exact .inr ⟨p.2, q.2, by simp [mget, hp], by simp [mget, ← h.1, hp], h.2.1⟩
    · have hq : ¬ q.1 = x := by rw [← h.1]; exact hp
      simp only [mget, if_neg hp, if_neg hq]
      exact h.2.2.get x
  | [], _ :: _, h, _ => h.elim
  | _ :: _, [], h, _ => h.elim
theorem KvR.put {x : κ} {v : Value} {y : β} (hv : Rl.Is1 G v y) : ∀ {a : List (κ × Value)} {b : List (κ × β)}, KvR G a b → KvR G (mput a x v) (mput b x y)
  | [], [], _ => ⟨rfl, hv, trivial⟩
  | p :: r, q :: s, h => by
    by_cases hp : p.1 = x
    · have hq : q.1 = x := by rw [← h.1]; exact hp
      simp only [mput, if_pos hp, if_pos hq]
      exact ⟨rfl, hv, h.2.2⟩
    · have hq : ¬ q.1 = x := by rw [← h.1]; exact hp
      simp only [mput, if_neg hp, if_neg hq]
      exact ⟨h.1, h.2.1, KvR.put hv h.2.2⟩
  | [], _ :: _, h => h.elim
  | _ :: _, [], h => h.elim
theorem KvR.at_ : ∀ {a : List (κ × Value)} {b : List (κ × β)}, KvR G a b → ∀ {i : Nat} {p : κ × Value}, a[i]? = some p → ∃ y, b[i]? = some (p.1, y) ∧ Rl.Is1 G p.2 y
  | [], [], _, i, p, hp => by simp at hp
  | q :: r, t :: s, h, i, p, hp => by
    cases i with
    | zero => simp at hp; subst hp; exact ⟨t.2, by simp [h.1], h.2.1⟩
    | succ i => obtain ⟨y, h1, h2⟩ := h.2.2.at_ (i := i) (by simpa using hp); exact ⟨y, by simpa using h1, h2⟩
  | [], _ :: _, h, _, _, _ => h.elim
  | _ :: _, [], h, _, _, _ => h.elim
/-- A map's block, as it reads. -/
def MpO (enc : κ → Value) (G : Gh) (o : Obj) (D : List (κ × β)) : Prop :=
  ∃ es clock kvs, o = .map es clock ∧ EsOf enc es clock kvs ∧ KvR G kvs D ∧ (D.map (·.1)).Nodup
theorem MpO.mono {enc : κ → Value} {o : Obj} {D : List (κ × β)} (hg : GLe G G') (h : MpO enc G o D) : MpO enc G' o D := by
  obtain ⟨es, clock, kvs, h1, h2, h3, h4⟩ := h
  exact ⟨es, clock, kvs, h1, h2, h3.mono hg, h4⟩
theorem MpO.nodup {enc : κ → Value} {o : Obj} {D : List (κ × β)} (h : MpO enc G o D) : (D.map (·.1)).Nodup := by
  obtain ⟨es, clock, kvs, h1, h2, h3, h4⟩ := h
  exact h4
theorem MpO.nil_ (enc : κ → Value) (G : Gh) : MpO enc G (.map #[] 0) ([] : List (κ × β)) := ⟨#[], 0, [], rfl, ⟨rfl, by simp, by simp⟩, trivial, by simp⟩
end
/-! ### What a map answers -/
section
variable [Rl β] {G G' : Gh} {P : Program} {enc : κ → Value} {o it : Obj} {D : List (κ × β)} {w : World} {b r : Nat} {t kt et : Nat} {k : κ}
/-- m[k]. -/
theorem MpO.lookup {z : Value} {zb : β} (hM : MpO enc G o D) (hK : KeyL P kt enc) (ht : mapKV P t kt et = true) (hz : (P.info? et).bind (fun i => i.zero) = some z) (hzb : Rl.Is1 G z zb) (k : κ) :
    ∃ v, Rl.Is1 G v ((mget D k).getD zb) ∧ ∀ (w : World) (b : Nat), w.heap[b]? = some o → (Instr.lookup t (.map (some b)) (enc k) false).run P w = .ok v w := by
  obtain ⟨es, c, kvs, rfl, hE, hR, _⟩ := hM
  have hu := mapKV_of ht
  cases hq : P.info? et with
  | none => simp [hq] at hz
  | some i =>
    have hz' : i.zero = some z := by simpa [hq] using hz
    have hzv : ∀ w, (zeroValue et).run P w = .ok z w := fun w => by simp [zeroValue, typeInfo, hq, hz']
    rcases hK.find k es.toList (kvs.map (·.1)) hE.keys with ⟨g1, g2⟩ | ⟨j, e', g1, g2, g3, g4⟩
    · refine ⟨z, ?_, fun w b hb => ?_⟩
      · rw [hR.keys] at g1; rw [mget_none g1]; exact hzb
      · have hc := hK.chk es.isEmpty k w
        simp [Instr.lookup, run_underlying hu, MapKept.run_getObj_map hb, hc, g2, hzv]
    · have hkv : kvs[j]? = some (k, e'.val) := by
        have := congrArg (·[j]?) hE.kv
        simp only [List.getElem?_map, g3, Option.map_some] at this
        rw [List.getElem?_map] at g1
        cases hj : kvs[j]? with
        | none => rw [hj] at g1; cases g1
        | some p =>
          rw [hj] at this g1
          simp only [Option.map_some, Option.some.injEq, Prod.mk.injEq] at this g1
          obtain ⟨p1, p2⟩ := p
          simp only [] at this g1
          rw [← g1, this.2]
      have hg := mget_at hkv rfl g2
      refine ⟨e'.val, ?_, fun w b hb => ?_⟩
      · rcases hR.get k with ⟨h1, _⟩ | ⟨v, y, h1, h2, h3⟩
        · rw [hg] at h1; cases h1
        · rw [hg] at h1; cases h1; rw [h2]; exact h3
      · have hc := hK.chk es.isEmpty k w
        simp [Instr.lookup, run_underlying hu, MapKept.run_getObj_map hb, hc, g4]
def ItO (enc : κ → Value) (o it : Obj) (b : Nat) (left : List κ) : Prop :=
  ∃ es clock seen, o = .map es clock ∧ it = .mapIter (some b) clock seen clock ∧ (leftOf es seen).toList.map (·.key) = left.map enc
def CurO (enc : κ → Value) (o it : Obj) (b : Nat) (k : κ) : Prop :=
  ∃ (es : Array MapEntry) (clock : Nat) (seen : Array Nat) (e : MapEntry), o = .map es clock ∧ it = .mapIter (some b) clock (seen.push e.born) clock ∧ e ∈ es.toList ∧ e.key = enc k
theorem filter_seen {α : Type} {f : α → Nat × Value} {p : Nat → Bool} : ∀ {l l' : List α}, l.map f = l'.map f → (l.filter (fun x => p (f x).1)).map (fun x => (f x).2) = (l'.filter (fun x => p (f x).1)).map (fun x => (f x).2)
  | [], [], _ => rfl
  | [], _ :: _, h => by simp at h
  | _ :: _, [], h => by simp at h
  | a :: l, b :: l', h => by
    simp only [List.map_cons, List.cons.injEq] at h
    have ih := filter_seen (p := p) h.2
    simp only [List.filter_cons, h.1]
    split
    · simp [h.1, ih]
    · exact ih
theorem left_list (es : Array MapEntry) (seen : Array Nat) : (leftOf es seen).toList = es.toList.filter (fun e => !seen.contains e.born) := by unfold leftOf; rw [Array.toList_filter]
/-- m[k] = v. -/
theorem MpO.put {v : Value} {y : β} (hM : MpO enc G o D) (hK : KeyL P kt enc) (ht : mapKV P t kt et = true) (hv : Rl.Is1 G v y) (k : κ) :
    ∃ o', MpO enc G o' (mput D k y) ∧ (∀ (w : World) (b : Nat), w.heap[b]? = some o → (Instr.mapUpdate t (.map (some b)) (enc k) v).run P w = .ok () (World.setO w b o')) ∧
      (k ∈ D.map (·.1) → ∀ it b left, ItO enc o it b left → ItO enc o' it b left) := by
  obtain ⟨es, clock, kvs, rfl, hE, hR, hn⟩ := hM
  have hu := mapKV_of ht
  rcases hK.find k es.toList (kvs.map (·.1)) hE.keys with ⟨g1, g2⟩ | ⟨j, e', g1, g2, g3, g4⟩
  · refine ⟨.map (es.push ⟨enc k, v, clock⟩) (clock + 1), ⟨_, _, mput kvs k v, rfl, ⟨?_, ?_, ?_⟩, hR.put hv, mput_nodup k y hn⟩, fun w b hb => ?_, fun h => absurd (by rw [hR.keys]; exact h) g1⟩
    · rw [mput_none g1]; simp [hE.kv]
    · intro x hx
      simp only [Array.toList_push, List.mem_append, List.mem_singleton] at hx
      rcases hx with hx | rfl
      · have := hE.old x hx; omega
      · simp
    · simp only [Array.toList_push, List.map_append, List.map_cons, List.map_nil]
      rw [List.nodup_append]
      refine ⟨hE.nd, by simp, fun a ha c hc => ?_⟩
      obtain ⟨y, hy, rfl⟩ := List.mem_map.1 ha
      have : c = clock := by simpa using hc
      have := hE.old y hy
      omega
    · have hc := hK.chk false k w
      simp [Instr.mapUpdate, run_underlying hu, MapKept.run_getObj_map hb, hc, g2, MapKept.run_setObj_map _ hb, World.setO]
  · have hj : es[j]? = some e' := by simpa using g3
    have hlt := (Array.getElem?_eq_some_iff.1 hj).1
    have hje : es[j] = e' := (Array.getElem?_eq_some_iff.1 hj).2
    have hke : e'.key = enc k := by
      have := congrArg (·[j]?) hE.keys
      simp only [List.getElem?_map, g3, Option.map_some] at this
      rw [← List.getElem?_map, g1] at this
      simpa using this
    have hmod : (es.modify j fun e => { e with key := enc k, val := v }).toList = es.toList.set j { e' with key := enc k, val := v } := by
      rw [Array.toList_modify]
      apply List.ext_getElem?
      intro i
      rw [List.getElem?_modify, List.getElem?_set]
      by_cases hij : j = i
      · subst hij; simp [hlt]; exact congrArg MapEntry.born hje
      · simp [hij]
    have hkb : (es.modify j fun e => { e with key := enc k, val := v }).toList.map (fun e => (e.born, e.key)) = es.toList.map (fun e => (e.born, e.key)) := by
      rw [hmod, List.map_set]
      apply List.ext_getElem?
      intro i
      rw [List.getElem?_set]
      split
      · rename_i h; subst h; simp [hlt]; exact ⟨congrArg MapEntry.born hje.symm, by rw [← hke]; exact congrArg MapEntry.key hje.symm⟩
      · rfl
    refine ⟨.map (es.modify j fun e => { e with key := enc k, val := v }) clock, ⟨_, _, mput kvs k v, rfl, ⟨?_, ?_, ?_⟩, hR.put hv, mput_nodup k y hn⟩, fun w b hb => ?_, fun _ it b left => ?_⟩
    · rw [hmod, mput_at g1 g2, List.map_set, List.map_set, hE.kv]
    · intro x hx
      rw [hmod] at hx
      rcases List.mem_or_eq_of_mem_set hx with hx | rfl
      · exact hE.old x hx
      · exact hE.old e' (List.mem_of_getElem? g3)
    · have := congrArg (List.map Prod.fst) hkb
      simp only [List.map_map, Function.comp_def] at this
      rw [this]; exact hE.nd
    · have hc := hK.chk false k w
      simp [Instr.mapUpdate, run_underlying hu, MapKept.run_getObj_map hb, hc, g4, hj, hje, hlt, hke, hK.stay, MapKept.run_setObj_map _ hb, World.setO]
    · rintro ⟨es2, c2, seen, h1, h2, h3⟩
      injection h1 with h1 h1'
      subst h1; subst h1'
      refine ⟨_, _, seen, rfl, h2, ?_⟩
      rw [left_list] at h3 ⊢
      rw [← h3]
      exact filter_seen (f := fun e : MapEntry => (e.born, e.key)) (p := fun n => !seen.contains n) hkb
/-- Where a range begins. -/
theorem MpO.start (hM : MpO enc G o D) (b : Nat) : ∃ es clock, o = .map es clock ∧ ItO enc o (.mapIter (some b) clock #[] clock) b (D.map (·.1)) := by
  obtain ⟨es, clock, kvs, rfl, hE, hR, hn⟩ := hM
  refine ⟨es, clock, rfl, es, clock, #[], rfl, rfl, ?_⟩
  rw [left_list, ← hR.keys, ← hE.keys]
  congr 1
  rw [List.filter_eq_self]
  intro a _; simp
theorem ItO.next {ty : TypeId} {left : List κ} (hM : MpO enc G o D) (hI : ItO enc o it b left) (hr : w.heap[r]? = some it) (hb : w.heap[b]? = some o) :
    (left = [] ∧ (Instr.next (.pointer (some ⟨r, 0, none⟩)) false ty).run P w = .ok (.tuple #[.bool false]) w) ∨
    ∃ l1 k l2 v it' w1, left = l1 ++ k :: l2 ∧ (w1 = w ∨ w1 = w.drew) ∧ (Instr.next (.pointer (some ⟨r, 0, none⟩)) false ty).run P w = .ok (.tuple #[.bool true, enc k, v]) (World.setO w1 r it') ∧ ItO enc o it' b (l1 ++ l2) ∧ CurO enc o it' b k := by
  obtain ⟨es, clock, kvs, rfl, hE, hR, hn⟩ := hM
  obtain ⟨es2, c2, seen, h1, rfl, h3⟩ := hI
  injection h1 with h1 h1'
  subst h1; subst h1'
  rcases run_next_at w ty r b clock clock seen es clock hr hb hE.old (Nat.le_refl _) with ⟨g1, g2⟩ | ⟨e, he, w1, g1, g2⟩
  · refine .inl ⟨?_, g2⟩
    have : (leftOf es seen).toList = [] := by rw [← List.length_eq_zero_iff, Array.length_toList]; exact g1
    rw [this] at h3
    simpa using h3.symm
  · obtain ⟨m1, m2, hm⟩ := List.append_of_mem he
    rw [hm, List.map_append, List.map_cons] at h3
    obtain ⟨l1, l2', rfl, e1, e2⟩ := List.map_eq_append_iff.1 h3.symm
    obtain ⟨k, l2, rfl, e3, e4⟩ := List.map_eq_cons_iff.1 e2
    have hme := mem_left he
    refine .inr ⟨l1, k, l2, e.val, .mapIter (some b) clock (seen.push e.born) clock, w1, rfl, g1, by rw [e3]; exact g2, ⟨es, clock, _, rfl, rfl, ?_⟩, ⟨es, clock, seen, e, rfl, rfl, hme.1, e3.symm⟩⟩
    rw [List.map_append, e1, e4, ← List.map_append]
    congr 1
    rw [left_list] at hm ⊢
    have hf : es.toList.filter (fun x => !(seen.push e.born).contains x.born) = (es.toList.filter (fun x => !seen.contains x.born)).filter (fun x => !(x.born == e.born)) := by
      rw [List.filter_filter]
      congr 1
      funext x
      rw [contains_push, Bool.not_or, Bool.and_comm]
    rw [hf, hm, List.filter_append, List.filter_cons]
    have hnd : ((m1 ++ e :: m2).map (·.born)).Nodup := by
      rw [← hm]; exact (List.filter_sublist.map _).nodup hE.nd
    rw [List.map_append, List.map_cons, List.nodup_append, List.nodup_cons] at hnd
    obtain ⟨_, ⟨n1, _⟩, n2⟩ := hnd
    have f1 : m1.filter (fun x => !(x.born == e.born)) = m1 := by
      rw [List.filter_eq_self]; intro x hx
      have : x.born ≠ e.born := n2 _ (List.mem_map.2 ⟨x, hx, rfl⟩) _ (by simp)
      simpa using this
    have f2 : m2.filter (fun x => !(x.born == e.born)) = m2 := by
      rw [List.filter_eq_self]; intro x hx
      have : x.born ≠ e.born := fun h => n1 (List.mem_map.2 ⟨x, hx, h⟩)
      simpa using this
    simp [f1, f2]
theorem CurO.entry (hK : ∀ x y, enc x = enc y → x = y) (hM : MpO enc G o D) (hc : CurO enc o it b k) : ∃ v y, mget D k = some y ∧ Rl.Is1 G v y ∧
    ∀ (w : World) (r : Nat), w.heap[r]? = some it → w.heap[b]? = some o → (Instr.entry (.pointer (some ⟨r, 0, none⟩))).run P w = .ok (.tuple #[enc k, v]) w := by
  obtain ⟨es, clock, kvs, rfl, hE, hR, hn⟩ := hM
  obtain ⟨es2, c2, seen, e, h1, rfl, h3, h4⟩ := hc
  injection h1 with h1 h1'
  subst h1; subst h1'
  obtain ⟨i, hi⟩ := List.getElem?_of_mem h3
  have hkv : kvs[i]? = some (k, e.val) := by
    have := congrArg (·[i]?) hE.kv
    simp only [List.getElem?_map, hi, Option.map_some] at this
    cases hj : kvs[i]? with
    | none => rw [hj] at this; cases this
    | some p =>
      rw [hj] at this
      simp only [Option.map_some, Option.some.injEq, Prod.mk.injEq] at this
      obtain ⟨p1, p2⟩ := p
      simp only [] at this
      rw [← hK _ _ (h4.symm.trans this.1), this.2]
  obtain ⟨y, hy, hv⟩ := hR.at_ hkv
  refine ⟨e.val, y, mget_nodup hn hy, hv, fun w r hr hb => ?_⟩
  rw [← h4]
  exact run_entry_at w r b clock seen es clock e hr hb h3 hE.nd
end
end Go.Gx
