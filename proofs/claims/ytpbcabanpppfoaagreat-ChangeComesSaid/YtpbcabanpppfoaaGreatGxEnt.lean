/- Short names for what the printed walks say most often. No condition. -/
import Derived.Test.YtpbcabanpppfoaaGreatGxSched
import Derived.Test.YtpbcabanpppfoaaGreatGxSlot
import Derived.Test.YtpbcabanpppfoaaGreatGxPtr
set_option linter.all false
namespace Go.Gx
open Go Go.RowKit
set_option linter.unusedSectionVars false
variable {M : Mu}
section
variable {P : Program} {N : Nat} {e : Env} {w : World} {ops : Array Oper} {rest : List Oper} {Q : Exit → Act → World → Prop}
theorem V_ {d : Option Tmp} {op : Op} {ty : TypeId} {pos : String} {af : Array Edge} {v : Value} (hop : OpVal P N e w ⟨d, op, ty, pos, af, none⟩ v)
    (h : WL P ops Q N rest (e.putO d v) w) (hd : okD N d = true := by rfl) : WL P ops Q N (⟨d, op, ty, pos, af, none⟩ :: rest) e w := wlVal hop hd h
theorem M_ {d : Option Tmp} {x : Operand} {ty : TypeId} {pos : String} {af : Array Edge} {v : Value} (hx : opv e x = some v)
    (h : WL P ops Q N rest (e.putO d v) w) (hd : okD N d = true := by rfl) : WL P ops Q N (⟨d, .move x, ty, pos, af, none⟩ :: rest) e w := wlVal (opMove hx) hd h
theorem A_ {d : Option Tmp} {x : Operand} {ty : TypeId} {pos : String} {af : Array Edge} {v : Value} (hx : opv e x = some v)
    (h : WL P ops Q N rest (e.putO d v) w) (hd : okD N d = true := by rfl) : WL P ops Q N (⟨d, .assign x, ty, pos, af, none⟩ :: rest) e w := wlVal (opAssign hx) hd h
end
section
variable {P : Program} {l : List Oper} {A : List Nat} {Q : Act → World → Prop} {N n done done' : Nat} {T : Tk} {e : Env} {w : World} {d : Option Tmp} {op : Op} {ty : TypeId} {pos : String} {af : Array Edge} {v : Value}
theorem D_ (i : Nat) (hi : l[i]? = some ⟨d, op, ty, pos, af, none⟩) (hd' : done ||| (1 <<< i) = done') (hop : ∀ w, OpVal P N e w ⟨d, op, ty, pos, af, none⟩ v)
    (h : WD P l A Q N n done' T (e.putO d v) w) (hk : tkB l A done i = true := by kernel_rfl) (hd : okD N d = true := by rfl) : WD P l A Q N (n + 1) done T e w := wdRo i hi hk hd' hop hd h
theorem DG_ (i : Nat) {j k : Nat} {b : Bool} (hi : l[i]? = some ⟨d, op, ty, pos, af, some (j, b)⟩) (hd' : done ||| (1 <<< i) = done') (hj : gslot l.toArray j = some k) (hb : e k = some (.bool b)) (hop : ∀ w, OpVal P N e w ⟨d, op, ty, pos, af, none⟩ v)
    (h : WD P l A Q N n done' T (e.putO d v) w) (hk : tkB l A done i = true := by kernel_rfl) (hd : okD N d = true := by rfl) : WD P l A Q N (n + 1) done T e w := wdRoG i hi hk hd' hj hb hop hd h
theorem E_ (i : Nat) (hi : l[i]? = some ⟨d, op, ty, pos, af, none⟩) (hd' : done ||| (1 <<< i) = done') (hop : OpVal P N e w ⟨d, op, ty, pos, af, none⟩ v)
    (h : WD P l A Q N n done' ((i, fun w => OpVal P N e w ⟨d, op, ty, pos, af, none⟩ v) :: T) (e.putO d v) w) (hk : tkB l A done i = true := by kernel_rfl) (hd : okD N d = true := by rfl) : WD P l A Q N (n + 1) done T e w := wdTake i hi hk hd' hop hd h
theorem EG_ (i : Nat) {j k : Nat} {b : Bool} (hi : l[i]? = some ⟨d, op, ty, pos, af, some (j, b)⟩) (hd' : done ||| (1 <<< i) = done') (hj : gslot l.toArray j = some k) (hb : e k = some (.bool b)) (hop : OpVal P N e w ⟨d, op, ty, pos, af, none⟩ v)
    (h : WD P l A Q N n done' ((i, fun w => OpVal P N e w ⟨d, op, ty, pos, af, none⟩ v) :: T) (e.putO d v) w) (hk : tkB l A done i = true := by kernel_rfl) (hd : okD N d = true := by rfl) : WD P l A Q N (n + 1) done T e w := wdTakeG i hi hk hd' hj hb hop hd h
theorem O_ (i : Nat) {j k : Nat} {b b' : Bool} (hi : l[i]? = some ⟨d, op, ty, pos, af, some (j, b)⟩) (hd' : done ||| (1 <<< i) = done') (hj : gslot l.toArray j = some k) (hb : e k = some (.bool b')) (hne : (b' == b) = false)
    (h : WD P l A Q N n done' T (e.putO d undef) w) (hk : tkB l A done i = true := by kernel_rfl) (hd : okD N d = true := by rfl) : WD P l A Q N (n + 1) done T e w := wdOff i hi hk hd' hj hb hne hd h
theorem OU_ (i : Nat) {j k : Nat} {b : Bool} (hi : l[i]? = some ⟨d, op, ty, pos, af, some (j, b)⟩) (hd' : done ||| (1 <<< i) = done') (hj : gslot l.toArray j = some k) (hb : e k = some undef)
    (h : WD P l A Q N n done' T (e.putO d undef) w) (hk : tkB l A done i = true := by kernel_rfl) (hd : okD N d = true := by rfl) : WD P l A Q N (n + 1) done T e w := wdOffU i hi hk hd' hj hb hd h
end
theorem ta_ : (∀ {α : Type} {a b : α}, cond true a b = a) ∧ (∀ {α : Type} {a b : α}, cond false a b = b) ∧ (!true) = false ∧ (!false) = true ∧ (∀ b, (b && true) = b) ∧ (∀ b, (b && false) = false) ∧ (∀ b, (true && b) = b) ∧ (∀ b, (false && b) = false) ∧
    (∀ b, (b || true) = true) ∧ (∀ b, (true || b) = true) ∧ (∀ b, (b || false) = b) ∧ (∀ b, (false || b) = b) :=
  ⟨rfl, rfl, rfl, rfl, Bool.and_true, Bool.and_false, Bool.true_and, Bool.false_and, Bool.or_true, Bool.true_or, Bool.or_false, Bool.false_or⟩
theorem r1_ {P : Program} {N : Nat} {e : Env} {w : World} {fn : Func} {r : ResultVar} {v : Value} {Q0 : Exit → Act → World → Prop} {C : World → Value → Prop}
    (hQ : ∀ (a : Act) (w : World) (v : Value), (results fn a.tmps).run P w = .ok v w → a.defers = [] → C w v → Q0 .ret a w) (hr : fn.results = #[r]) (h : RV P e w r v) (hC : C w v) : ∀ a, Fr N a e → Q0 .ret a w :=
  fun _ ha => hQ _ _ _ (results1 ha hr h) ha.df hC
theorem r2_ {P : Program} {N : Nat} {e : Env} {w : World} {fn : Func} {r r2 : ResultVar} {v v2 : Value} {Q0 : Exit → Act → World → Prop} {C : World → Value → Prop}
    (hQ : ∀ (a : Act) (w : World) (v : Value), (results fn a.tmps).run P w = .ok v w → a.defers = [] → C w v → Q0 .ret a w) (hr : fn.results = #[r, r2]) (h : RV P e w r v) (h2 : RV P e w r2 v2) (hC : C w (.tuple #[v, v2])) : ∀ a, Fr N a e → Q0 .ret a w :=
  fun _ ha => hQ _ _ _ (results2 ha hr h h2) ha.df hC
theorem re2 {w0 : World} {G0 G : Gh} {w : World} {n : Nat} (l : List Bx) (M : Mu) (hC : Cx w0 G0 G w M) (hB : Bxs G w n l M) : Cx w0 G0 G w M ∧ Bxs G w n l M := ⟨hC, hB⟩
theorem Fr.c {N : Nat} {a : Act} {e e' : Env} {v : Value} (h : Fr N a e') (hf : Fr N a e) (t : Nat) (ht : e t = some v) : Fr N a (e'.put t v) := h.cons hf ht
end Go.Gx

namespace Go.Gx
open Go Go.RowKit
set_option linter.unusedSectionVars false
variable {M : Mu}
section
variable {κ β : Type} [DecidableEq κ] [Rl β] {G G' : Gh} {P : Program} {enc : κ → Value} {o it : Obj} {D : List (κ × β)} {w : World} {b r : Nat} {t kt et : Nat} {k : κ}
/-- clear(m). -/
theorem MpO.clear (hM : MpO enc G o D) (ht : mapKV P t kt et = true) :
    ∃ o', MpO enc G o' ([] : List (κ × β)) ∧ ∀ (w : World) (b : Nat) (ty : Nat), w.heap[b]? = some o → (Builtin.clear_ #[t] ty #[.map (some b)]).run P w = .ok (.tuple #[]) (World.setO w b o') := by
  obtain ⟨es, clock, kvs, rfl, hE, hR, hn⟩ := hM
  have hu := mapKV_of ht
  refine ⟨.map #[] clock, ⟨#[], clock, [], rfl, ⟨rfl, by simp, by simp⟩, trivial, by simp⟩, fun w b ty hb => ?_⟩
  simp [Builtin.clear_, run_underlying hu, MapKept.run_getObj_map hb, MapKept.run_setObj_map _ hb, World.setO]
end
section
variable {P : Program} {ops : Array Oper} {Q : Exit → Act → World → Prop} {N : Nat} {e : Env} {w w0 : World} {G0 G : Gh} {rest : List Oper} {d : Option Tmp} {ty : TypeId} {pos : String} {af : Array Edge} {bl : List Bx}
  {m : List Nat} {L O B : List (Nat × Obj)} {i b t t2 : Nat} {o o' : Obj} {x y z : Operand} {k v u : Value}
theorem wlEntryH (hC : Cx w0 G0 G w ⟨m, L⟩) (hB : Bxs G w w0.heap.size bl ⟨m, L⟩) (hi : L[i]? = some (b, o)) (hx : opv e x = some (.map (some b))) (hy : opv e y = some k)
    (hr : (Instr.mapEntry t (.map (some b)) k).run P w = .ok u (World.setO w b o')) (hd : okD N d = true)
    (h : ∀ w', Cx w0 G0 G w' ⟨m, L.set i (b, o')⟩ → Bxs G w' w0.heap.size bl ⟨m, L.set i (b, o')⟩ → WL P ops Q N rest (e.putO d u) w') :
    WL P ops Q N (⟨d, .mapEntry t x y, ty, pos, af, none⟩ :: rest) e w := by
  refine wlStep (R := fun v' w' => v' = u ∧ w' = World.setO w b o') hd (fun a ha => ?_) ?_
  · unfold OpR
    have : (execOp a.eval ⟨d, .mapEntry t x y, ty, pos, af, none⟩).run P w = .ok (.value u) (World.setO w b o') := by
      simp [execOp, ha.eval hx, ha.eval hy, hr]
    rw [this]
    exact ⟨rfl, rfl⟩
  · rintro v' w' ⟨rfl, rfl⟩
    exact h _ (hC.turnO hi o') (hB.turnO hi o')
theorem wlEntryStoreH (hC : Cx w0 G0 G w ⟨m, L⟩) (hB : Bxs G w w0.heap.size bl ⟨m, L⟩) (hi : L[i]? = some (b, o)) (hx : opv e x = some (.map (some b))) (hy : opv e y = some k) (hz : opv e z = some v)
    (hr : (Instr.entryStore t (.map (some b)) k v).run P w = .ok () (World.setO w b o')) (hd : okD N d = true)
    (h : ∀ w', Cx w0 G0 G w' ⟨m, L.set i (b, o')⟩ → Bxs G w' w0.heap.size bl ⟨m, L.set i (b, o')⟩ → WL P ops Q N rest (e.putO d undef) w') :
    WL P ops Q N (⟨d, .entryStore t x y z, ty, pos, af, none⟩ :: rest) e w := by
  refine wlStep (R := fun v' w' => v' = undef ∧ w' = World.setO w b o') hd (fun a ha => ?_) ?_
  · unfold OpR
    have : (execOp a.eval ⟨d, .entryStore t x y z, ty, pos, af, none⟩).run P w = .ok .skip (World.setO w b o') := by
      simp [execOp, ha.eval hx, ha.eval hy, ha.eval hz, hr]
    rw [this]
    exact ⟨rfl, rfl⟩
  · rintro v' w' ⟨rfl, rfl⟩
    exact h _ (hC.turnO hi o') (hB.turnO hi o')
variable {f : FuncId} {xs : List Operand} {vs caps first : List Value} {ats : Array TypeId} {R : Gh → List (Nat × Obj) → Value → Prop}
end
end Go.Gx

namespace Go.Gx
open Go Go.RowKit
set_option linter.unusedSectionVars false
section
variable {κ : Type} [DecidableEq κ] {β : Type} [Rl β] {G G' : Gh} {P : Program} {enc : κ → Value} {o it : Obj} {D : List (κ × β)} {w : World} {b r : Nat} {t kt et : Nat}
/-- The stamp of a key's entry. -/
def StO (enc : κ → Value) (o : Obj) (k : κ) (s : Int) : Prop := ∃ (es : Array MapEntry) (c j : Nat) (e1 : MapEntry), o = .map es c ∧ es[j]? = some e1 ∧ e1.key = enc k ∧ s = (e1.born : Int)
theorem EsOf.store {k : κ} {es1 : Array MapEntry} {c1 : Nat} {kvs1 : List (κ × Value)} {j : Nat} {e1 : MapEntry} {v' : Value} (hE1 : EsOf enc es1 c1 kvs1) (hj : es1[j]? = some e1) (hk1 : e1.key = enc k) (g1 : (kvs1.map (·.1))[j]? = some k) (g2 : ∀ i, i < j → (kvs1.map (·.1))[i]? ≠ some k) :
    ∃ es2, EsOf enc es2 c1 (mput kvs1 k v') ∧ ∀ (w : World) (b : Nat), w.heap[b]? = some (.map es1 c1) → (Instr.entryStore t (.map (some b)) (.int .i64 (e1.born : Int)) v').run P w = .ok () (World.setO w b (.map es2 c1)) := by
  have hlt := (Array.getElem?_eq_some_iff.1 hj).1
  have hje : es1[j] = e1 := (Array.getElem?_eq_some_iff.1 hj).2
  have g3 : es1.toList[j]? = some e1 := by simpa using hj
  have hmod : (es1.modify j fun e => { e with val := v' }).toList = es1.toList.set j { e1 with val := v' } := by
    rw [Array.toList_modify]
    apply List.ext_getElem?
    intro i
    rw [List.getElem?_modify, List.getElem?_set]
    by_cases hij : j = i
    · subst hij; simp [hlt]; rw [hje]; exact ⟨rfl, rfl⟩
    · simp [hij]
  have hfind : es1.findIdx? (fun e => (e.born : Int) == (e1.born : Int)) = some j := by
    rw [Array.findIdx?_eq_some_iff_getElem]
    refine ⟨hlt, by rw [hje]; simp, fun i hi => ?_⟩
    have hne : es1[i].born ≠ e1.born := by
      intro he
      have h1 : (es1.toList.map (·.born))[i]? = some e1.born := by
        rw [List.getElem?_map, Array.getElem?_toList, Array.getElem?_eq_getElem (by omega)]; simp [he]
      have h2 : (es1.toList.map (·.born))[j]? = some e1.born := by rw [List.getElem?_map, g3]; rfl
      have := (List.getElem?_inj (by simp; omega) hE1.nd).1 (h1.trans h2.symm)
      omega
    simp; omega
  refine ⟨es1.modify j fun e => { e with val := v' }, ⟨?_, ?_, ?_⟩, fun w b hb => ?_⟩
  · rw [hmod, mput_at g1 g2, List.map_set, List.map_set, hE1.kv]; simp [hk1]
  · intro x hx
    rw [hmod] at hx
    rcases List.mem_or_eq_of_mem_set hx with hx | rfl
    · exact hE1.old x hx
    · exact hE1.old e1 (List.mem_of_getElem? g3)
  · rw [hmod, List.map_set]
    have : (es1.toList.map (·.born)).set j e1.born = es1.toList.map (·.born) := by
      apply List.ext_getElem?
      intro i
      rw [List.getElem?_set]
      split
      · rename_i h; subst h; simp [hlt]; exact (congrArg MapEntry.born hje).symm
      · rfl
    rw [this]; exact hE1.nd
  · simp only [Instr.entryStore, Sem.run_bind, MapKept.run_getObj_map hb, Result.andThen_ok]
    simp [asInt, asIntOf, hfind, MapKept.run_setObj_map _ hb, World.setO]
/-- m[k] = v', by the stamp. -/
theorem MpO.estore {v' : Value} {y' : β} {k : κ} {s : Int} (hM : MpO enc G o D) (hK : KeyL P kt enc) (hs : StO enc o k s) (hv : Rl.Is1 G v' y') :
    ∃ o2, MpO enc G o2 (mput D k y') ∧ ∀ (w : World) (b : Nat), w.heap[b]? = some o → (Instr.entryStore t (.map (some b)) (.int .i64 s) v').run P w = .ok () (World.setO w b o2) := by
  obtain ⟨es, clock, kvs, rfl, hE, hR, hn⟩ := hM
  obtain ⟨es', c, j, e1, ho, hj, hk, rfl⟩ := hs
  injection ho with h1 h2
  subst h1; subst h2
  have hkey : (kvs.map (·.1))[j]? = some k := by
    have := congrArg (·[j]?) hE.keys
    have hj' : es.toList[j]? = some e1 := by simpa using hj
    simp only [List.getElem?_map, hj', Option.map_some] at this
    cases hq : kvs[j]? with
    | none => rw [hq] at this; simp at this
    | some p =>
      rw [hq] at this
      simp only [Option.map_some, Option.some.injEq] at this
      rw [List.getElem?_map, hq, Option.map_some, hK.inj _ _ (hk.symm.trans this)]
  have hnd : (kvs.map (·.1)).Nodup := by rw [hR.keys]; exact hn
  obtain ⟨es2, g1, g2⟩ := hE.store (P := P) (t := t) (v' := v') hj hk hkey fun i hi he => by
    have := (List.getElem?_inj (List.getElem?_eq_some_iff.1 he).1 hnd).1 (he.trans hkey.symm)
    omega
  exact ⟨_, ⟨es2, _, _, rfl, g1, hR.put hv, mput_nodup k _ hn⟩, g2⟩
theorem MpO.entry2 {z : Value} {zb : β} (hM : MpO enc G o D) (hK : KeyL P kt enc) (ht : mapKV P t kt et = true) (hz : (P.info? et).bind (fun i => i.zero) = some z) (hzb : Rl.Is1 G z zb) (k : κ) :
    ∃ o1 v s, MpO enc G o1 (mput D k ((mget D k).getD zb)) ∧ Rl.Is1 G v ((mget D k).getD zb) ∧
      (∀ (w : World) (b : Nat), w.heap[b]? = some o → (Instr.mapEntry t (.map (some b)) (enc k)).run P w = .ok (.tuple #[v, .int .i64 s]) (World.setO w b o1)) ∧
      StO enc o1 k s := by
  obtain ⟨es, clock, kvs, rfl, hE, hR, hn⟩ := hM
  have hu := mapKV_of ht
  cases hq : P.info? et with
  | none => simp [hq] at hz
  | some i =>
  have hz' : i.zero = some z := by simpa [hq] using hz
  have hzv : ∀ w, (zeroValue et).run P w = .ok z w := fun w => by simp [zeroValue, typeInfo, hq, hz']
  -- storing at a stamp
  rcases hK.find k es.toList (kvs.map (·.1)) hE.keys with ⟨g1, g2⟩ | ⟨j, e', g1, g2, g3, g4⟩
  · have g1' : k ∉ D.map (·.1) := by rw [← hR.keys]; exact g1
    have hE1 : EsOf enc (es.push ⟨enc k, z, clock⟩) (clock + 1) (kvs ++ [(k, z)]) := by
      refine ⟨by simp [hE.kv], ?_, ?_⟩
      · intro x hx
        simp only [Array.toList_push, List.mem_append, List.mem_singleton] at hx
        rcases hx with hx | rfl
        · have := hE.old x hx; omega
        · simp
      · simp only [Array.toList_push, List.map_append, List.map_cons, List.map_nil]
        rw [List.nodup_append]
        refine ⟨hE.nd, by simp, fun a ha c hc => ?_⟩
        obtain ⟨y, hy, rfl⟩ := List.mem_map.1 ha
        have : c = clock := by simpa using hc
        have := hE.old y hy
        omega
    have hlen : es.size = kvs.length := by
      have := congrArg List.length hE.kv
      simpa using this
    refine ⟨.map (es.push ⟨enc k, z, clock⟩) (clock + 1), z, (clock : Int), ⟨_, _, mput kvs k z, rfl, by rw [mput_none g1]; exact hE1, ?_, mput_nodup k _ hn⟩, by rw [mget_none g1']; exact hzb, fun w b hb => ?_, ⟨_, _, es.size, ⟨enc k, z, clock⟩, rfl, by simp, rfl, rfl⟩⟩
    · rw [mget_none g1']; exact hR.put hzb
    · have hc := hK.chk false k w
      simp [Instr.mapEntry, run_underlying hu, MapKept.run_getObj_map hb, hc, g2, hzv, MapKept.run_setObj_map _ hb, World.setO, goInt]
  · have hj : es[j]? = some e' := by simpa using g3
    have hlt := (Array.getElem?_eq_some_iff.1 hj).1
    have hje : es[j] = e' := (Array.getElem?_eq_some_iff.1 hj).2
    have hke : e'.key = enc k := by
      have := congrArg (·[j]?) hE.keys
      simp only [List.getElem?_map, g3, Option.map_some] at this
      rw [← List.getElem?_map, g1] at this
      simpa using this
    have hsame : (es.modify j fun e => { e with key := enc k }) = es := by
      apply Array.ext'
      rw [Array.toList_modify]
      apply List.ext_getElem?
      intro i
      rw [List.getElem?_modify]
      by_cases hij : j = i
      · subst hij; rw [g3]; simp [← hke]
      · simp [hij]
    have hkv : kvs[j]? = some (k, e'.val) := by
      have := congrArg (·[j]?) hE.kv
      simp only [List.getElem?_map, g3, Option.map_some] at this
      rw [List.getElem?_map] at g1
      cases hj : kvs[j]? with
      | none => rw [hj] at g1; cases g1
      | some p =>
        rw [hj] at this g1
        simp only [Option.map_some, Option.some.injEq, Prod.mk.injEq] at this g1
        obtain ⟨p1, p2⟩ := p
        simp only [] at this g1
        rw [← g1, this.2]
    have hg := mget_at hkv rfl g2
    have hy : ∃ y, mget D k = some y ∧ Rl.Is1 G e'.val y := by
      rcases hR.get k with ⟨h1, _⟩ | ⟨v, y, h1, h2, h3⟩
      · rw [hg] at h1; cases h1
      · rw [hg] at h1; cases h1; exact ⟨y, h2, h3⟩
    obtain ⟨y, hy1, hy2⟩ := hy
    have hput : mput D k ((mget D k).getD zb) = D := by
      rw [hy1]
      have : ∀ l : List (κ × β), mget l k = some y → mput l k y = l := by
        intro l
        induction l with
        | nil => intro h; simp [mget] at h
        | cons p r ih =>
          intro h
          by_cases hp : p.1 = k
          · simp only [mget, hp, if_true, Option.some.injEq] at h
            simp only [mput, hp, if_true]
            rw [← h, ← hp]
          · simp only [mget, hp, if_false] at h
            simp [mput, hp, ih h]
      exact this D hy1
    refine ⟨.map es clock, e'.val, (e'.born : Int), by rw [hput]; exact ⟨es, clock, kvs, rfl, hE, hR, hn⟩, by rw [hy1]; exact hy2, fun w b hb => ?_, ⟨es, clock, j, e', rfl, hj, hke, rfl⟩⟩
    · have hc := hK.chk false k w
      simp [Instr.mapEntry, run_underlying hu, MapKept.run_getObj_map hb, hc, g4, hj, hje, hlt, hke, hK.stay, hsame, MapKept.run_setObj_map _ hb, World.setO, goInt]
end
end Go.Gx
