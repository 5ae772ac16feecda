/- Pointers to what is kept track of; keys that are structs; entries stored into. No condition. -/
import Derived.Test.YtpbcabanpppfoaaGreatGxTurn
import Derived.WalkSpells
import Derived.Laws.Pointers
set_option linter.all false
namespace Go.Gx
open Go Go.RowKit
set_option linter.unusedSectionVars false
variable {M : Mu} {κ : Type} [DecidableEq κ] {β : Type}
section
variable {P : Program} {N : Nat} {e : Env} {w w0 : World} {G0 G : Gh} {d : Option Tmp} {ty : TypeId} {pos : String} {af : Array Edge} {gd : Option (Nat × Bool)} {x y : Operand} {t yt : TypeId}
theorem opNilCheck {a' : Addr} (hx : opv e x = some (.pointer (some a'))) : OpVal P N e w ⟨d, .nilCheck x, ty, pos, af, gd⟩ (.pointer (some a')) := fun a ha => by simp [execOp, ha.eval hx]
def isPtr (P : Program) (t : Nat) : Bool := match P.underlying t with | some (.pointer e) => Nat.beq e (P.pointee t) | _ => false
theorem ptr_of (h : isPtr P t = true) : P.underlying t = some (.pointer (P.pointee t)) := by
  unfold isPtr at h
  split at h
  · rename_i hu; rw [hu, Nat.eq_of_beq_eq_true h]
  · cases h
theorem opPtrNil {p : Option Addr} (ht : isPtr P t = true) (hx : opv e x = some (.pointer p)) (hy : opv e y = some (.pointer none)) : OpVal P N e w ⟨d, .binOp .eql t x y yt, ty, pos, af, gd⟩ (.bool p.isNone) := fun a ha => by
  have := run_eql_pointer_nil (P := P) w t p (ptr_of ht)
  have hg : (eqGuard .eql t x y (.pointer p) (.pointer none)).run P w = .ok () w := rfl
  simp [execOp, ha.eval hx, ha.eval hy, this, hg]
theorem opMapNil {kt et : Nat} {r : Option Nat} (ht : mapKV P t kt et = true) (hx : opv e x = some (.map r)) (hy : opv e y = some (.map none)) : OpVal P N e w ⟨d, .binOp .eql t x y yt, ty, pos, af, gd⟩ (.bool r.isNone) := fun a ha => by
  have := run_eql_map_nil (P := P) w t kt et r (mapKV_of ht)
  have hg : (eqGuard .eql t x y (.map r) (.map none)).run P w = .ok () w := rfl
  simp [execOp, ha.eval hx, ha.eval hy, this, hg]
theorem opNeBool {p q : Bool} (ht : P.underlying t = some .bool) (hx : opv e x = some (.bool p)) (hy : opv e y = some (.bool q)) : OpVal P N e w ⟨d, .binOp .neq t x y yt, ty, pos, af, gd⟩ (.bool (p != q)) := fun a ha => by
  have hg : (eqGuard .neq t x y (.bool p) (.bool q)).run P w = .ok () w := rfl
  have h1 : (Op.equal t (.bool p) (.bool q)).run P w = .ok (p == q) w := run_equalIn_bool' w 9999 t p q ht
  have : (binOp .neq t (.bool p) (.bool q)).run P w = .ok (.bool (p != q)) w := by simp only [binOp]; simp [h1, bne]
  simp [execOp, ha.eval hx, ha.eval hy, this, hg]
theorem opEqBool {p q : Bool} (ht : P.underlying t = some .bool) (hx : opv e x = some (.bool p)) (hy : opv e y = some (.bool q)) : OpVal P N e w ⟨d, .binOp .eql t x y yt, ty, pos, af, gd⟩ (.bool (p == q)) := fun a ha => by
  have hg : (eqGuard .eql t x y (.bool p) (.bool q)).run P w = .ok () w := rfl
  have h1 : (Op.equal t (.bool p) (.bool q)).run P w = .ok (p == q) w := run_equalIn_bool' w 9999 t p q ht
  have : (binOp .eql t (.bool p) (.bool q)).run P w = .ok (.bool (p == q)) w := by simp only [binOp]; simp [h1]
  simp [execOp, ha.eval hx, ha.eval hy, this, hg]
theorem Cx.hcell (h : Cx w0 G0 G w M) (i : Nat) {b : Nat} {cs : List Value} {T : TypeId} (hi : M.held[i]? = some (b, .cells cs.toArray T (0, 0))) {o : Nat} {v : Value} (hr : cs[o]? = some v) : w.cell? ⟨b, o, none⟩ = some v := by
  rw [World.cell?, h.heldAt i hi]
  simpa using hr
end
/-- An own slice whose block stays, or is looked at as if it did. -/
theorem Ow.frozen {α : Type} [Rp α] {G : Gh} {g T T' : Nat} {cs : List Value} {v : Value} {xs : List α} (h : Ow G (some (g, T', cs)) T v xs) (hg : HasO G g (.cells cs.toArray T' (0, 0))) (hm : xs.length ≤ maxL) : Sl G v xs := by
  obtain ⟨rows, ⟨hr, h2⟩, h3⟩ := h
  have hl := h3.length
  obtain ⟨rfl, off, cap, rfl, hle, hcap, hcs, htake⟩ := h2
  refine ⟨some ⟨g, off, none⟩, cap, by rw [hl], by omega, hm, fun k x hk => ?_⟩
  obtain ⟨r, hrk, hrx⟩ := h3.get hk
  refine ⟨g, off, r, rfl, ⟨_, _, _, hg, fun j u hu => ?_⟩, hrx⟩
  have hf := flatten_get hr hrk hu
  rw [← htake, List.getElem?_take] at hf
  split at hf
  · rw [List.getElem?_drop, ← Nat.add_assoc] at hf; simpa using hf
  · cases hf

/-! ### Keys that are structs -/
section
variable {P : Program}
theorem checkKey_int {t : Nat} {k : IntKind} (hu : P.underlying t = some (.int k)) (em : Bool) (n : Nat) (v : Value) (w : World) : (Instr.checkKey em (n + 1) t v).run P w = .ok () w := by
  cases v <;> simp [Instr.checkKey, run_underlying hu]
theorem checkKey_array {t el len : Nat} {k : IntKind} (hu : P.underlying t = some (.array len el)) (he : P.underlying el = some (.int k)) (ho : oneOk P el = true) (hs : (P.info? el).map (·.size) = some 1) (em : Bool) (n : Nat) (cs : Array Value) (hl : len ≤ cs.size) (w : World) :
    (Instr.checkKey em (n + 2) t (.agg cs)).run P w = .ok () w := by
  have hsz := sizeOf_of hs w
  rw [show n + 2 = (n + 1) + 1 from rfl, Instr.checkKey]
  simp only [Sem.run_bind, run_underlying hu, Result.andThen_ok]
  simp only [Std.Legacy.Range.forIn_eq_forIn_range', Std.Legacy.Range.size, Nat.sub_zero, Nat.add_one_sub_one, Nat.div_one]
  have each : ∀ j ∈ List.range' 0 len, j < cs.size := fun j hj => by simp at hj; omega
  generalize List.range' 0 len = is at each
  induction is with
  | nil => simp
  | cons j is ih =>
    have hj := each j (by simp)
    have hp := run_part_one (P := P) ho (off := j * 1) (cs := cs) (v := cs[j]) (by rw [Nat.mul_one]; exact Array.getElem?_eq_getElem hj) w
    have hc := checkKey_int he em n cs[j] w
    simp only [List.forIn_cons, Sem.run_bind, hsz, Result.andThen_ok, hp, hc, Sem.run_pure]
    exact ih (fun y hy => each y (by simp [hy]))
theorem checkKey_struct {t : Nat} {L : List (Nat × Nat)} {xs : Array Value} (hf : fieldsAre P t L = true) (em : Bool) (n : Nat) (w : World)
    (h : ∀ p ∈ L, ∃ v, (part p.1 xs p.2).run P w = .ok v w ∧ (Instr.checkKey em n p.1 v).run P w = .ok () w) : (Instr.checkKey em (n + 1) t (.agg xs)).run P w = .ok () w := by
  unfold fieldsAre at hf
  split at hf
  · rename_i fs hu
    simp only [Bool.and_eq_true, beq_iff_eq, Bool.not_eq_true'] at hf
    have hf := hf.1
    have h' : ∀ f ∈ fs.toList, f.name ≠ "_" ∧ ∃ v, (part f.type xs f.offset).run P w = .ok v w ∧ (Instr.checkKey em n f.type v).run P w = .ok () w := fun f hm => by
      have : (f.name == "_", f.type, f.offset) ∈ L.map (fun p => (false, p.1, p.2)) := by rw [← hf]; exact List.mem_map.2 ⟨f, hm, rfl⟩
      obtain ⟨q, hq, he⟩ := List.mem_map.1 this
      simp only [Prod.mk.injEq] at he
      obtain ⟨e1, e2, e3⟩ := he
      refine ⟨fun hh => ?_, ?_⟩
      · rw [hh] at e1; simp at e1
      · rw [← e2, ← e3]; exact h q hq
    clear h hf
    rw [Instr.checkKey]
    simp only [Sem.run_bind, run_underlying hu, Result.andThen_ok]
    rw [← Array.forIn_toList]
    generalize fs.toList = L at h'
    induction L with
    | nil => simp
    | cons f L ih =>
      obtain ⟨hn', v, p1, p2⟩ := h' f (by simp)
      simp only [List.forIn_cons, Sem.run_bind, hn', ne_eq, not_false_eq_true, if_true, Result.andThen_ok, p1, p2, Sem.run_pure]
      exact ih (fun y hy => h' y (by simp [hy]))
  · cases hf
def isNum : Value → Bool | .int _ _ => true | _ => false
theorem sameBits_agg (cs : List Value) (h : ∀ v ∈ cs, isNum v = true) (n : Nat) : Instr.sameBits (n + 1) (.agg cs.toArray) (.agg cs.toArray) = true := by
  have : ∀ l : List Value, (∀ v ∈ l, isNum v = true) → (l.zip l).all (fun x => Instr.sameBits n x.1 x.2) = true := by
    intro l
    induction l with
    | nil => intro _; rfl
    | cons v r ih =>
      intro hl
      simp only [List.zip_cons_cons, List.all_cons, Bool.and_eq_true]
      refine ⟨?_, ih (fun u hu => hl u (by simp [hu]))⟩
      have := hl v (by simp)
      cases v <;> simp [isNum] at this
      simp [Instr.sameBits]
  simp [Instr.sameBits]
  have := this cs h
  rw [List.all_eq_true] at this
  intro a b hab
  exact this (a, b) hab
end
/-! ### m[k] op= v -/
section
variable [Rl β] {G G' : Gh} {P : Program} {enc : κ → Value} {o it : Obj} {D : List (κ × β)} {w : World} {b r : Nat} {t kt et : Nat}
theorem MpO.entry {z : Value} {zb : β} (hM : MpO enc G o D) (hK : KeyL P kt enc) (ht : mapKV P t kt et = true) (hz : (P.info? et).bind (fun i => i.zero) = some z) (hzb : Rl.Is1 G z zb) (k : κ) :
    ∃ o1 v s, MpO enc G o1 (mput D k ((mget D k).getD zb)) ∧ Rl.Is1 G v ((mget D k).getD zb) ∧
      (∀ (w : World) (b : Nat), w.heap[b]? = some o → (Instr.mapEntry t (.map (some b)) (enc k)).run P w = .ok (.tuple #[v, .int .i64 s]) (World.setO w b o1)) ∧
      ∀ (v' : Value) (y' : β), Rl.Is1 G v' y' → ∃ o2, MpO enc G o2 (mput D k y') ∧ ∀ (w : World) (b : Nat), w.heap[b]? = some o1 → (Instr.entryStore t (.map (some b)) (.int .i64 s) v').run P w = .ok () (World.setO w b o2) := by
  obtain ⟨es, clock, kvs, rfl, hE, hR, hn⟩ := hM
  have hu := mapKV_of ht
  cases hq : P.info? et with
  | none => simp [hq] at hz
  | some i =>
  have hz' : i.zero = some z := by simpa [hq] using hz
  have hzv : ∀ w, (zeroValue et).run P w = .ok z w := fun w => by simp [zeroValue, typeInfo, hq, hz']
  -- storing at a stamp
  have store : ∀ (es1 : Array MapEntry) (c1 : Nat) (kvs1 : List (κ × Value)) (j : Nat) (e1 : MapEntry) (v' : Value), EsOf enc es1 c1 kvs1 → es1[j]? = some e1 → e1.key = enc k → (kvs1.map (·.1))[j]? = some k → (∀ i, i < j → (kvs1.map (·.1))[i]? ≠ some k) →
      ∃ es2, EsOf enc es2 c1 (mput kvs1 k v') ∧ ∀ (w : World) (b : Nat), w.heap[b]? = some (.map es1 c1) → (Instr.entryStore t (.map (some b)) (.int .i64 (e1.born : Int)) v').run P w = .ok () (World.setO w b (.map es2 c1)) := by
    intro es1 c1 kvs1 j e1 v' hE1 hj hk1 g1 g2
    have hlt := (Array.getElem?_eq_some_iff.1 hj).1
    have hje : es1[j] = e1 := (Array.getElem?_eq_some_iff.1 hj).2
    have g3 : es1.toList[j]? = some e1 := by simpa using hj
    have hmod : (es1.modify j fun e => { e with val := v' }).toList = es1.toList.set j { e1 with val := v' } := by
      rw [Array.toList_modify]
      apply List.ext_getElem?
      intro i
      rw [List.getElem?_modify, List.getElem?_set]
      by_cases hij : j = i
      · subst hij; simp [hlt]; rw [hje]; exact ⟨rfl, rfl⟩
      · simp [hij]
    have hfind : es1.findIdx? (fun e => (e.born : Int) == (e1.born : Int)) = some j := by
      rw [Array.findIdx?_eq_some_iff_getElem]
      refine ⟨hlt, by rw [hje]; simp, fun i hi => ?_⟩
      have hne : es1[i].born ≠ e1.born := by
        intro he
        have h1 : (es1.toList.map (·.born))[i]? = some e1.born := by
          rw [List.getElem?_map, Array.getElem?_toList, Array.getElem?_eq_getElem (by omega)]; simp [he]
        have h2 : (es1.toList.map (·.born))[j]? = some e1.born := by rw [List.getElem?_map, g3]; rfl
        have := (List.getElem?_inj (by simp; omega) hE1.nd).1 (h1.trans h2.symm)
        omega
      simp; omega
    refine ⟨es1.modify j fun e => { e with val := v' }, ⟨?_, ?_, ?_⟩, fun w b hb => ?_⟩
    · rw [hmod, mput_at g1 g2, List.map_set, List.map_set, hE1.kv]; simp [hk1]
    · intro x hx
      rw [hmod] at hx
      rcases List.mem_or_eq_of_mem_set hx with hx | rfl
      · exact hE1.old x hx
      · exact hE1.old e1 (List.mem_of_getElem? g3)
    · rw [hmod, List.map_set]
      have : (es1.toList.map (·.born)).set j e1.born = es1.toList.map (·.born) := by
        apply List.ext_getElem?
        intro i
        rw [List.getElem?_set]
        split
        · rename_i h; subst h; simp [hlt]; exact (congrArg MapEntry.born hje).symm
        · rfl
      rw [this]; exact hE1.nd
    · simp only [Instr.entryStore, Sem.run_bind, MapKept.run_getObj_map hb, Result.andThen_ok]
      simp [asInt, asIntOf, hfind, MapKept.run_setObj_map _ hb, World.setO]
  rcases hK.find k es.toList (kvs.map (·.1)) hE.keys with ⟨g1, g2⟩ | ⟨j, e', g1, g2, g3, g4⟩
  · have g1' : k ∉ D.map (·.1) := by rw [← hR.keys]; exact g1
    have hE1 : EsOf enc (es.push ⟨enc k, z, clock⟩) (clock + 1) (kvs ++ [(k, z)]) := by
      refine ⟨by simp [hE.kv], ?_, ?_⟩
      · intro x hx
        simp only [Array.toList_push, List.mem_append, List.mem_singleton] at hx
        rcases hx with hx | rfl
        · have := hE.old x hx; omega
        · simp
      · simp only [Array.toList_push, List.map_append, List.map_cons, List.map_nil]
        rw [List.nodup_append]
        refine ⟨hE.nd, by simp, fun a ha c hc => ?_⟩
        obtain ⟨y, hy, rfl⟩ := List.mem_map.1 ha
        have : c = clock := by simpa using hc
        have := hE.old y hy
        omega
    have hlen : es.size = kvs.length := by
      have := congrArg List.length hE.kv
      simpa using this
    refine ⟨.map (es.push ⟨enc k, z, clock⟩) (clock + 1), z, (clock : Int), ⟨_, _, mput kvs k z, rfl, by rw [mput_none g1]; exact hE1, ?_, mput_nodup k _ hn⟩, by rw [mget_none g1']; exact hzb, fun w b hb => ?_, fun v' y' hv' => ?_⟩
    · rw [mget_none g1']; exact hR.put hzb
    · have hc := hK.chk false k w
      simp [Instr.mapEntry, run_underlying hu, MapKept.run_getObj_map hb, hc, g2, hzv, MapKept.run_setObj_map _ hb, World.setO, goInt]
    · obtain ⟨es2, h1, h2⟩ := store (es.push ⟨enc k, z, clock⟩) (clock + 1) (kvs ++ [(k, z)]) es.size ⟨enc k, z, clock⟩ v' hE1 (by simp) rfl (by rw [hlen]; simp) (fun i hi => by
        rw [hlen] at hi
        rw [List.map_append, List.getElem?_append_left (by simpa using hi)]
        intro he; exact g1 (List.mem_of_getElem? he))
      refine ⟨_, ⟨es2, _, _, rfl, h1, ?_, mput_nodup k _ hn⟩, h2⟩
      have e1 : mput (kvs ++ [(k, z)]) k v' = mput (mput kvs k z) k v' := by rw [mput_none g1]
      have e2 : ∀ (l : List (κ × Value)), mput (mput l k z) k v' = mput l k v' := by
        intro l
        induction l with
        | nil => simp [mput]
        | cons p r ih => by_cases hp : p.1 = k <;> simp [mput, hp, ih]
      rw [e1, e2]; exact hR.put hv'
  · have hj : es[j]? = some e' := by simpa using g3
    have hlt := (Array.getElem?_eq_some_iff.1 hj).1
    have hje : es[j] = e' := (Array.getElem?_eq_some_iff.1 hj).2
    have hke : e'.key = enc k := by
      have := congrArg (·[j]?) hE.keys
      simp only [List.getElem?_map, g3, Option.map_some] at this
      rw [← List.getElem?_map, g1] at this
      simpa using this
    have hsame : (es.modify j fun e => { e with key := enc k }) = es := by
      apply Array.ext'
      rw [Array.toList_modify]
      apply List.ext_getElem?
      intro i
      rw [List.getElem?_modify]
      by_cases hij : j = i
      · subst hij; rw [g3]; simp [← hke]
      · simp [hij]
    have hkv : kvs[j]? = some (k, e'.val) := by
      have := congrArg (·[j]?) hE.kv
      simp only [List.getElem?_map, g3, Option.map_some] at this
      rw [List.getElem?_map] at g1
      cases hj : kvs[j]? with
      | none => rw [hj] at g1; cases g1
      | some p =>
        rw [hj] at this g1
        simp only [Option.map_some, Option.some.injEq, Prod.mk.injEq] at this g1
        obtain ⟨p1, p2⟩ := p
        simp only [] at this g1
        rw [← g1, this.2]
    have hg := mget_at hkv rfl g2
    have hy : ∃ y, mget D k = some y ∧ Rl.Is1 G e'.val y := by
      rcases hR.get k with ⟨h1, _⟩ | ⟨v, y, h1, h2, h3⟩
      · rw [hg] at h1; cases h1
      · rw [hg] at h1; cases h1; exact ⟨y, h2, h3⟩
    obtain ⟨y, hy1, hy2⟩ := hy
    have hput : mput D k ((mget D k).getD zb) = D := by
      rw [hy1]
      have : ∀ l : List (κ × β), mget l k = some y → mput l k y = l := by
        intro l
        induction l with
        | nil => intro h; simp [mget] at h
        | cons p r ih =>
          intro h
          by_cases hp : p.1 = k
          · simp only [mget, hp, if_true, Option.some.injEq] at h
            simp only [mput, hp, if_true]
            rw [← h, ← hp]
          · simp only [mget, hp, if_false] at h
            simp [mput, hp, ih h]
      exact this D hy1
    refine ⟨.map es clock, e'.val, (e'.born : Int), by rw [hput]; exact ⟨es, clock, kvs, rfl, hE, hR, hn⟩, by rw [hy1]; exact hy2, fun w b hb => ?_, fun v' y' hv' => ?_⟩
    · have hc := hK.chk false k w
      simp [Instr.mapEntry, run_underlying hu, MapKept.run_getObj_map hb, hc, g4, hj, hje, hlt, hke, hK.stay, hsame, MapKept.run_setObj_map _ hb, World.setO, goInt]
    · obtain ⟨es2, h1, h2⟩ := store es clock kvs j e' v' hE hj hke g1 g2
      exact ⟨_, ⟨es2, _, _, rfl, h1, hR.put hv', mput_nodup k _ hn⟩, h2⟩
end
end Go.Gx
