/- What comes in, as it reads, is data over memory that stays; and the row's last step. No condition. -/
import Derived.Test.YtpbcabanpppfoaaGreatGxMap
import Derived.ChangeArms
import Derived.ProofKit
import Derived.SizedLaws
import Derived.ChangeOld
import Derived.OpenShut
import Derived.Below
import Derived.Lib.SliceRun
set_option linter.all false
namespace Go.Gx
open Go Go.RowKit Go.ChangeShapes Go.WideShapes

/-- The whole heap stays. -/
def hG (W : World) : Gh := fun b => W.heap[b]?
theorem hG_holds (W : World) : Holds (hG W) W := fun _ _ h => h
/-- Whatever reads at type T is a datum. -/
def Opn (P : Program) (α : Type) [Rp α] (T : Nat) : Prop :=
  ∀ {H : Type} (enc : TypeId × Value → H) (W : World) (sp : Nat → Bool) (fuel : Nat) (cs : List Value) (d : DataW H) (ps : List MemPlace),
    DataW.trod enc P W 0 sp true fuel T cs = some (d, ps) → (∀ n ∈ d.weights P T, n ≤ reachBytes) → ∃ x : α, Rp.Is (hG W) cs x
section
variable {P : Program} {T : Nat}
theorem opnU8 (hT : P.underlying T = some (.int .u8)) : Opn P UInt8 T := by
  intro H enc W sp fuel cs d ps h _
  obtain ⟨n, h1, _, h3⟩ := DataW.trod_int hT h
  have hr : 0 ≤ n ∧ n < 256 := by
    simp [Lit.wf] at h3
    have e1 : IntKind.u8.min = 0 := rfl
    have e2 : IntKind.u8.max = 255 := rfl
    rw [e1, e2] at h3
    omega
  refine ⟨UInt8.ofNat n.toNat, ?_⟩
  subst h1
  show _ = [Value.int .u8 (((UInt8.ofNat n.toNat).toNat : Nat) : Int)]
  have : (UInt8.ofNat n.toNat).toNat = n.toNat := by simp; omega
  rw [this]
  congr 2
  omega
theorem weightsAll_mem {H : Type} {e : Nat} : ∀ {l : List (DataW H)} {x : DataW H} {n : Nat}, x ∈ l → n ∈ x.weights P e → n ∈ DataW.weightsAll P e l
  | y :: r, x, n, hx, hn => by
    simp only [DataW.weightsAll, List.mem_append]
    rcases List.mem_cons.1 hx with rfl | hx
    · exact .inl hn
    · exact .inr (weightsAll_mem hx hn)
theorem cells_row {W : World} {base n : Nat} {a : Addr} {cs : List Value} (h : W.cells? base a n = some cs) (hn : 0 < n) : a.spot = none ∧ cs.length = n ∧ RowG (hG W) a.block a.off cs := by
  unfold World.cells? at h
  split at h
  · have hl := mapM_some_length h
    have hg := mapM_some_get h
    have h0 := hg 0 0 (by simp [hn])
    have hlen : cs.length = n := by simpa using hl
    have hc0 : cs[0]? = some cs[0] := List.getElem?_eq_getElem (by omega)
    rw [hc0] at h0
    have ha0 : a.add 0 = a := by simp [Addr.add]
    rw [ha0] at h0
    unfold World.cell? at h0
    split at h0
    · rename_i c T fz hb
      split at h0
      · cases h0
      · rename_i hsp
        have hs : a.spot = none := by simpa using hsp
        refine ⟨hs, hlen, ⟨c, T, fz, hb, fun j u hj => ?_⟩⟩
        have hjn : j < n := by have := (List.getElem?_eq_some_iff.1 hj).1; omega
        have hj' := hg j j (by simp [hjn])
        rw [hj] at hj'
        by_cases hz : j = 0
        · subst hz
          rw [ha0] at hj'
          unfold World.cell? at hj'
          rw [hb] at hj'
          simpa [hs] using hj'
        · unfold World.cell? at hj'
          simpa [Addr.add, hz, hb] using hj'
    · cases h0
  · cases h
theorem opnSlice {α : Type} [Rp α] {e : Nat} (hT : P.underlying T = some (.slice e)) (hc : P.cellsOf e = Rp.sz α) (hz : 0 < Rp.sz α) (hb : 0 < P.bytesOf e) (h : Opn P α e) : Opn P (List α) T := by
  intro H enc W sp fuel cs d ps hd hw
  rcases DataW.trod_slice hT hd with ⟨h1, h2⟩ | ⟨a, len, cap, elems, rest, n, _, h1, h2, _, h4, h5, h6, h7, _, _⟩
  · exact ⟨[], _, h1, Sl.nil_ _⟩
  · injection h2 with h2 h2'
    subst h2
    simp only [DataW.weights, hT, List.mem_cons, List.mem_append] at hw
    -- each element
    have hel : ∀ i, i < len → ∃ row x, W.cells? 0 (a.add (i * P.cellsOf e)) (P.cellsOf e) = some row ∧ Rp.Is (hG W) row (x : α) := by
      intro i hi
      have h8 := h7 i hi
      rw [List.getElem?_eq_getElem (by omega)] at h8
      obtain ⟨row, hr1, hr2⟩ := Option.bind_eq_some_iff.1 h8
      obtain ⟨x, hx⟩ := h enc W sp n row elems[i].1 elems[i].2 hr2 (fun m hm => hw m (.inr (.inl (weightsAll_mem (List.mem_map.2 ⟨elems[i], List.getElem_mem _, rfl⟩) hm))))
      exact ⟨row, x, hr1, hx⟩
    -- as a list
    have hxs : ∀ m, m ≤ len → ∃ xs : List α, xs.length = m ∧ ∀ k x, xs[k]? = some x → ∃ row, W.cells? 0 (a.add (k * P.cellsOf e)) (P.cellsOf e) = some row ∧ Rp.Is (hG W) row x := by
      intro m
      induction m with
      | zero => intro _; exact ⟨[], rfl, fun k x hk => by simp at hk⟩
      | succ m ih =>
        intro hm
        obtain ⟨xs, g1, g2⟩ := ih (by omega)
        obtain ⟨row, x, g3, g4⟩ := hel m (by omega)
        refine ⟨xs ++ [x], by simp [g1], fun k y hk => ?_⟩
        by_cases hkm : k < m
        · rw [List.getElem?_append_left (by omega)] at hk; exact g2 k y hk
        · rw [List.getElem?_append_right (by omega)] at hk
          have hk0 : k - xs.length = 0 := by
            rcases Nat.eq_zero_or_pos (k - xs.length) with h | h
            · exact h
            · rw [List.getElem?_eq_none (by simp; omega)] at hk; cases hk
          rw [hk0] at hk
          simp at hk
          subst hk
          rw [show k = m by omega]
          exact ⟨row, g3, g4⟩
    obtain ⟨xs, g1, g2⟩ := hxs len (Nat.le_refl _)
    have hlen : len ≤ maxL := by
      have h9 := hw _ (.inl rfl)
      simp only [List.length_map] at h9
      have h10 : elems.length * 1 ≤ (elems.length + rest.length) * P.bytesOf e := Nat.mul_le_mul (by omega) (by omega)
      simp only [reachBytes, maxL] at *
      omega
    refine ⟨xs, _, h1, some a, cap, by rw [g1], by omega, by omega, fun k x hk => ?_⟩
    obtain ⟨row, g3, g4⟩ := g2 k x hk
    have g5 := cells_row g3 (by omega)
    -- the address
    have hk' : k < len := by have := (List.getElem?_eq_some_iff.1 hk).1; omega
    obtain ⟨row0, x0, g6, _⟩ := hel 0 (by omega)
    have g7 := (cells_row g6 (by omega)).1
    have ha0 : a.add (0 * P.cellsOf e) = a := by simp [Addr.add]
    rw [ha0] at g7
    refine ⟨a.block, a.off, row, by cases a; simp at g7; subst g7; rfl, ?_, g4⟩
    have g8 := g5.2.2
    rw [← hc]
    unfold Addr.add at g8
    split at g8
    · rename_i hz'; rw [hz', Nat.add_zero]; exact g8
    · exact g8
def fieldsOf (P : Program) (t : Nat) (L : List (Nat × Nat)) : Bool := match P.underlying t with | some (.struct fs) => fs.toList.map (fun f => (f.type, f.offset)) == L | _ => false
end
end Go.Gx

namespace Go.Gx
open Go Go.RowKit
variable {M : Mu}
section
variable {P : Program} {N : Nat} {e : Env} {w : World} {d : Option Tmp} {ty : TypeId} {pos : String} {af : Array Edge} {gd : Option (Nat × Bool)}
end
end Go.Gx

namespace Go.Gx
open Go Go.RowKit
section
variable {P : Program} {N : Nat} {e : Env} {w : World} {d : Option Tmp} {ty : TypeId} {pos : String} {af : Array Edge} {gd : Option (Nat × Bool)}
theorem wrap_u8 {m : Nat} (h : m < 256) : IntKind.wrap .u8 (m : Int) = m := by
  simp only [IntKind.wrap, IntKind.signed, IntKind.bits]; simp; omega
end
end Go.Gx

namespace Go.Gx
open Go Go.RowKit
variable {M : Mu}
section
variable {α : Type} [Rp α] {P : Program} {ops : Array Oper} {Q : Exit → Act → World → Prop} {N : Nat} {e : Env} {w w0 : World} {G0 G : Gh} {rest : List Oper} {d : Option Tmp} {ty : TypeId} {pos : String} {af : Array Edge} {gd : Option (Nat × Bool)} {bl r : List Bx}
theorem wlBuildOwn {t el n bytes : Nat} {ps : List (Nat × Operand)} {vs : List Value} {rows : List (List Value)} {xs : List α} (he : elemOk P t el (Rp.sz α) bytes = true) (hsz : Nat.blt 0 (Rp.sz α) = true) (hsm : Nat.ble (n * Rp.sz α) 16777216 = true)
    (hC : Cx w0 G0 G w M) (hB : Bxs G w w0.heap.size (bl ++ r) M) (hi : ps.map (·.1) = List.range' 0 n) (hvs : opvs e (ps.map (·.2)) = some vs) (hrows : vs.map (fun v => v.cells.toList) = rows) (hR : Rows2 G rows xs) (hd : okD N d = true)
    (h : ∀ b cs w', Cx w G G w' → Cx w0 G0 G w' M → Bxs G w' w0.heap.size (bl ++ (Option.toList (some (b, el, cs)) ++ r)) M → Ow G (some (b, el, cs)) el (.slice (some ⟨b, 0, none⟩) n n) xs → WL P ops Q N rest (e.putO d (.slice (some ⟨b, 0, none⟩) n n)) w') :
    WL P ops Q N (⟨d, .buildSlice t n ps.toArray, ty, pos, af, none⟩ :: rest) e w := by
  have hn : ps.length = n := by have := congrArg List.length hi; simpa using this
  have hvl := opvs_len hvs
  have hxl : xs.length = n := by rw [← hR.length, ← hrows, List.length_map, hvl, List.length_map, hn]
  have hrl : ∀ r ∈ rows, r.length = Rp.sz α := fun r hr => (hR.len r hr).1
  have hle := Nat.le_of_ble_eq_true hsm
  have h1 : n ≤ n * Rp.sz α := Nat.le_mul_of_pos_right n (Nat.le_of_ble_eq_true hsz)
  have hO : Ow G (some (w.heap.size, el, rows.flatten)) el (.slice (some ⟨w.heap.size, 0, none⟩) n n) xs :=
    ⟨rows, ⟨hrl, rfl, 0, n, by rw [hR.length, hxl], by rw [hR.length, hxl]; exact Nat.le_refl _, by simp only [maxLen]; omega, by rw [flatten_len hrl, hR.length, hxl, Nat.zero_add], by rw [List.drop_zero, ← flatten_len hrl]; exact List.take_length⟩, hR⟩
  refine wlStep (R := fun v w' => v = .slice (some ⟨w.heap.size, 0, none⟩) n n ∧ w' = w.alloc (.cells rows.flatten.toArray el)) hd (fun a ha => ?_) ?_
  · unfold OpR
    have hp := ha.parts hvs
    have hrun := run_buildSlice (P := P) (w := w) (ps := (ps.map (·.1)).zip vs) (rows := rows) (n := n) he (Nat.le_of_ble_eq_true hsz) (by simp [hvl, hn]) (by omega) (by rw [List.map_fst_zip (by simp [hvl])]; exact hi)
      (by rw [← hrows, ← List.map_snd_zip (l₁ := ps.map (·.1)) (l₂ := vs) (by simp [hvl]), List.map_map, List.map_snd_zip (by simp [hvl])]; rfl) hrl
    have hx : (execOp a.eval ⟨d, .buildSlice t n ps.toArray, ty, pos, af, none⟩).run P w = .ok (.value (.slice (some ⟨w.heap.size, 0, none⟩) n n)) (w.alloc (.cells rows.flatten.toArray el)) := by
      have hpa : (ps.toArray.map fun (p : Nat × Operand) => (p.1, a.eval p.2)) = ((ps.map (·.1)).zip vs).toArray := Array.ext' (by rw [hp])
      simp only [execOp, Sem.run_bind]
      rw [show (Array.map (fun x : Nat × Operand => match x with | (i, x) => (i, a.eval x)) ps.toArray) = ((ps.map (·.1)).zip vs).toArray from hpa, hrun]
      rfl
    rw [hx]
    exact ⟨rfl, rfl⟩
  · rintro v w' ⟨rfl, rfl⟩
    have hk := Cx.alloc hC.holds (.cells rows.flatten.toArray el)
    refine h w.heap.size rows.flatten _ hk (hC.trans hk) ?_ hO
    exact (hB.push hC.holds hC.size hC.heldLt el rows.flatten).perm (by simpa using List.perm_middle.symm)
end
end Go.Gx

namespace Go.Gx
open Go Go.RowKit
variable {M : Mu}
section
variable {P : Program} {N : Nat} {e : Env} {w : World} {d : Option Tmp} {ty : TypeId} {pos : String} {af : Array Edge} {gd : Option (Nat × Bool)}
theorem slice_of {t : Nat} (h : isSlice P t = true) : ∃ el, P.underlying t = some (.slice el) := by
  unfold isSlice at h
  split at h
  · exact ⟨_, by assumption⟩
  · cases h
theorem opNilSlice {t yt : TypeId} {x y : Operand} {A : Option Addr} {n cap : Nat} (hx : opv e x = some (.slice A n cap)) (hy : opv e y = some (.slice none 0 0)) (ht : isSlice P t = true) :
    OpVal P N e w ⟨d, .binOp .eql t x y yt, ty, pos, af, gd⟩ (.bool A.isNone) := fun a ha => by
  obtain ⟨el, hu⟩ := slice_of ht
  have := Go.Lib.run_eql_slice_nil (P := P) w t el A n cap 0 0 hu
  have hg : (eqGuard .eql t x y (.slice A n cap) (.slice none 0 0)).run P w = .ok () w := rfl
  simp [execOp, ha.eval hx, ha.eval hy, this, hg]
end
section
variable {α : Type} [Rp α] {P : Program} {G : Gh} {w : World} {n T : Nat} {o : Option Bx} {xs : List α} {bl r : List Bx}
end

theorem zeros_flat (zc : List Value) : ∀ m : Nat, (Builtin.zeroCells zc.toArray m).toList = (List.replicate m zc).flatten := by
  have key : ∀ m : Nat, List.map (fun i => zc.toArray[i % zc.length]!) (List.range (m * zc.length)) = (List.replicate m zc).flatten := by
    intro m
    induction m with
    | zero => simp
    | succ m ih =>
      rw [Nat.succ_mul, List.range_add, List.map_append, ih, List.replicate_succ', List.flatten_append]
      congr 1
      simp only [List.map_map, List.flatten_cons, List.flatten_nil, List.append_nil]
      apply List.ext_getElem?
      intro i
      rw [List.getElem?_map]
      by_cases hi : i < zc.length
      · rw [List.getElem?_range hi, List.getElem?_eq_getElem hi]
        have : (m * zc.length + i) % zc.length = i := by rw [Nat.mul_add_mod_self_right, Nat.mod_eq_of_lt hi]
        simp [Function.comp, this, hi]
      · rw [List.getElem?_eq_none (by simp; omega), List.getElem?_eq_none (by omega)]; rfl
  intro m
  have := key m
  unfold Builtin.zeroCells
  simp only [Array.toList_map, Array.toList_range, List.size_toArray]
  exact this
/-! ### Own slices handed over -/
section
variable {P : Program} {ops : Array Oper} {Q : Exit → Act → World → Prop} {N : Nat} {e : Env} {w w0 : World} {G0 G : Gh} {rest : List Oper} {d : Option Tmp} {ty : TypeId} {pos : String} {af : Array Edge} {bl r : List Bx} {o : Option Bx}
/-- Other boxes over a call that may turn one of them. -/
theorem Bxs.over {w' : World} {G' : Gh} {n : Nat} (h : Bxs G w n (bl ++ (o.toList ++ r)) M) {o' : Option Bx} (k : Cx w G G' w' (o.toList.map (·.1))) (h' : Bxs G' w' w.heap.size o'.toList (o.toList.map (·.1))) (hn : n ≤ w.heap.size) (hM : ∀ x ∈ M.held, x.1 < w.heap.size) : Bxs G' w' n (bl ++ (o'.toList ++ r)) M := by
  have hp : (bl ++ (o.toList ++ r)).Perm (o.toList ++ (bl ++ r)) := by
    rw [← List.append_assoc, ← List.append_assoc]; exact List.perm_append_comm.append_right r
  have h1 := h.perm hp
  have hnd := h1.nodup
  rw [List.map_append, List.nodup_append] at hnd
  obtain ⟨hnd1, hnd2, hnd3⟩ := hnd
  have hp' : (o'.toList ++ (bl ++ r)).Perm (bl ++ (o'.toList ++ r)) := by
    rw [← List.append_assoc, ← List.append_assoc]; exact List.perm_append_comm.append_right r
  refine Bxs.perm (l := o'.toList ++ (bl ++ r)) ⟨fun x hx => ?_, ?_, fun x hx hm => ?_⟩ hp'
  · rcases List.mem_append.1 hx with hx | hx
    · obtain ⟨a, b, c⟩ := h'.at_ x hx
      refine ⟨a, b, ?_⟩
      rcases c with c | c
      · exact .inl (Nat.le_trans hn c)
      · obtain ⟨y, hy, hy2⟩ := List.mem_map.1 c
        have := (h1.at_ y (List.mem_append.2 (.inl hy))).2.2
        rw [hy2] at this; exact this
    · obtain ⟨a, b, c⟩ := h1.at_ x (List.mem_append.2 (.inr hx))
      have hlt := (Array.getElem?_eq_some_iff.1 a).1
      have hnk : x.1 ∉ o.toList.map (·.1) := fun hk => hnd3 _ hk _ (List.mem_map.2 ⟨x, hx, rfl⟩) rfl
      refine ⟨(k.old' x.1 hlt hnk).trans a, ?_, c⟩
      cases hg : G' x.1 with
      | none => rfl
      | some ob =>
        rcases k.fresh x.1 ob hg with h6 | h6
        · rw [b] at h6; cases h6
        · omega
  · rw [List.map_append, List.nodup_append]
    refine ⟨h'.nodup, hnd2, ?_⟩
    intro a ha b hb
    obtain ⟨x, hx, rfl⟩ := List.mem_map.1 ha
    obtain ⟨y, hy, rfl⟩ := List.mem_map.1 hb
    have hlt := (Array.getElem?_eq_some_iff.1 (h1.at_ y (List.mem_append.2 (.inr hy))).1).1
    rcases (h'.at_ x hx).2.2 with c | c
    · omega
    · exact hnd3 _ c _ (List.mem_map.2 ⟨y, hy, rfl⟩)
  · rcases List.mem_append.1 hx with hx | hx
    · rcases (h'.at_ x hx).2.2 with c | c
      · obtain ⟨y, hy, he⟩ := List.mem_map.1 hm
        have := hM y hy
        omega
      · obtain ⟨y, hy, hy2⟩ := List.mem_map.1 c
        exact h1.apart y (List.mem_append.2 (.inl hy)) (by rw [hy2]; exact hm)
    · exact h1.apart x (List.mem_append.2 (.inr hx)) hm
/-- What is behind the first l elements is cleared. -/
theorem wlClearTail {α : Type} [Rp α] {x : Operand} {t el sz n cap l : Nat} {rt : TypeId} {A : Option Addr} {xs : List α} {z : α} {zc : List Value} (he : P.underlying t = some (.slice el)) (hsz : sz = Rp.sz α) (hz : ∀ G, Rp.Is G zc z) (hzf : (P.info? el).bind (fun i => i.zero.map Value.cells) = some zc.toArray) (hC : Cx w0 G0 G w M) (hB : Bxs G w w0.heap.size (bl ++ (o.toList ++ r)) M)
    (hO : Ow G o el (.slice A n cap) xs) (hl : l ≤ xs.length) (hx : opv e x = some (.slice (if cap = l then A else A.map (fun a => a.add (l * sz))) (n - l) (cap - l))) (hd : okD N d = true)
    (h : ∀ o' w', Cx w0 G0 G w' M → Bxs G w' w0.heap.size (bl ++ (o'.toList ++ r)) M → Ow G o' el (.slice A n cap) (xs.take l ++ List.replicate (xs.length - l) z) → WL P ops Q N rest (e.putO d (.tuple #[])) w') :
    WL P ops Q N (⟨d, .call ⟨.builtin .clear, #[x], #[t]⟩, rt, pos, af, none⟩ :: rest) e w := by
  obtain ⟨rows, ⟨h1, h2⟩, h3⟩ := hO
  have hl1 := h3.length
  have hzl : ∀ (G : Gh), zc.length = Rp.sz α := fun G => Rp.len (hz G)
  have hzl := hzl G
  by_cases hk : n - l = 0
  · -- nothing is cleared
    have hn : xs.length = l := by
      have := (show Ow G o el (.slice A n cap) xs from ⟨rows, ⟨h1, h2⟩, h3⟩).len
      omega
    refine wlStep (R := fun v w' => v = .tuple #[] ∧ w' = w) hd (fun a ha => ?_) ?_
    · unfold OpR
      have hr : (execOp a.eval ⟨d, .call ⟨.builtin .clear, #[x], #[t]⟩, rt, pos, af, none⟩).run P w = .ok (.value (.tuple #[])) w := by
        simp only [execOp, resolve, Sem.run_bind, Sem.run_pure, Result.andThen_ok, invoke, builtin, List.map_toArray, List.map_cons, List.map_nil, ha.eval hx, hk]
        simp [Builtin.clear_, run_underlying he]
        cases (if cap = l then A else A.map (fun a => a.add (l * sz))) <;> simp
      rw [hr]; exact ⟨rfl, rfl⟩
    · rintro v w' ⟨rfl, rfl⟩
      refine h o w' hC hB ?_
      rw [hn, Nat.sub_self]
      simp only [List.replicate_zero, List.append_nil]
      rw [List.take_of_length_le (by omega)]
      exact ⟨rows, ⟨h1, h2⟩, h3⟩
  · cases o with
    | none => obtain ⟨hr, hv⟩ := h2; injection hv with e1 e2 e3; omega
    | some ob =>
      obtain ⟨g, T', cs⟩ := ob
      obtain ⟨hT, off, cap', hv, h4, h5, h6, h7⟩ := h2
      injection hv with e1 e2 e3
      subst hT; subst e1; subst e2; subst e3
      have hg := hB.at_ (g, T', cs) (by simp)
      have hcl : ¬ cap = l := by omega
      rw [if_neg hcl] at hx
      simp only [Option.map_some, Addr.add_mid] at hx
      obtain ⟨zv, hzv, hzc⟩ : ∃ zv, (∀ w : World, (zeroValue T').run P w = .ok zv w) ∧ zv.cells = zc.toArray := by
        cases hq : P.info? T' with
        | none => simp [hq] at hzf
        | some inf =>
          cases hzz : inf.zero with
          | none => simp [hq, hzz] at hzf
          | some zv => exact ⟨zv, fun w => by simp [zeroValue, typeInfo, hq, hzz], by simpa [hq, hzz] using hzf⟩
      have hflat : (Builtin.zeroCells zc.toArray (rows.length - l)).toList = (List.replicate (rows.length - l) zc).flatten := zeros_flat zc _
      have hrl : ∀ q ∈ List.replicate (rows.length - l) zc, q.length = Rp.sz α := fun q hq => by rw [List.eq_of_mem_replicate hq]; exact hzl
      have hfl := flatten_len hrl
      rw [List.length_replicate] at hfl
      have hmul : rows.length * sz ≤ cap * sz := Nat.mul_le_mul_right _ h4
      have hsum : l * sz + (rows.length - l) * sz = rows.length * sz := by rw [← Nat.add_mul, show l + (rows.length - l) = rows.length by omega]
      have hfit : off + l * sz + (List.replicate (rows.length - l) zc).flatten.length ≤ cs.length := by rw [hfl, h6, ← hsz]; omega
      have hone : ∀ v ∈ (List.replicate (rows.length - l) zc).flatten, v.oneCell' = true := fun v hv => by
        obtain ⟨q, hq, hv⟩ := List.mem_flatten.1 hv
        rw [List.eq_of_mem_replicate hq] at hv
        exact Rp.one (hz G) v hv
      refine wlStep (R := fun v w' => v = .tuple #[] ∧ w' = w.setRow g (cs.take (off + l * sz) ++ (List.replicate (rows.length - l) zc).flatten ++ cs.drop (off + l * sz + (List.replicate (rows.length - l) zc).flatten.length)).toArray) hd (fun a ha => ?_) ?_
      · unfold OpR
        have hst := run_storeCells_at (P := P) g (off + l * sz) T' (List.replicate (rows.length - l) zc).flatten 0 cs.toArray w hg.1 (by simpa using hfit) hone
        simp only [Nat.add_zero] at hst
        have hr : (execOp a.eval ⟨d, .call ⟨.builtin .clear, #[x], #[t]⟩, rt, pos, af, none⟩).run P w = .ok (.value (.tuple #[])) (w.setRow g (cs.take (off + l * sz) ++ (List.replicate (rows.length - l) zc).flatten ++ cs.drop (off + l * sz + (List.replicate (rows.length - l) zc).flatten.length)).toArray) := by
          simp only [execOp, resolve, Sem.run_bind, Sem.run_pure, Result.andThen_ok, invoke, builtin, List.map_toArray, List.map_cons, List.map_nil, ha.eval hx]
          obtain ⟨m, hm⟩ : ∃ m, rows.length - l = m + 1 := ⟨rows.length - l - 1, by omega⟩
          have hflat' := hflat
          rw [hm] at hflat' hst ⊢
          simp [Builtin.clear_, run_underlying he, hzv, hzc, hflat', hst]
        rw [hr]; exact ⟨rfl, rfl⟩
      · rintro v w' ⟨rfl, rfl⟩
        refine h (some (g, T', cs.take (off + l * sz) ++ (List.replicate (rows.length - l) zc).flatten ++ cs.drop (off + l * sz + (List.replicate (rows.length - l) zc).flatten.length))) _ (hC.setRow' hg.2.1 hg.2.2 (hB.apart (g, T', cs) (by simp)) _) (Bxs.setX (X := bl) hB _) ⟨rows.take l ++ List.replicate (rows.length - l) zc, ⟨?_, rfl, off, cap, ?_, ?_, h5, ?_, ?_⟩, ?_⟩
        · intro q hq
          rcases List.mem_append.1 hq with hq | hq
          · exact h1 q (List.mem_of_mem_take hq)
          · exact hrl q hq
        · simp; omega
        · simp; omega
        · simp only [List.length_append, List.length_take, List.length_drop]; omega
        · have t1 : (rows.take l).flatten = (cs.drop off).take (l * sz) := by
            have hf := flatten_len (rows := rows.take l) (fun q hq => h1 q (List.mem_of_mem_take hq))
            rw [List.length_take, Nat.min_eq_left (by omega)] at hf
            have e1 : rows.flatten = (rows.take l).flatten ++ (rows.drop l).flatten := by rw [← List.flatten_append, List.take_append_drop]
            have e2 : (cs.drop off).take (l * sz) = ((cs.drop off).take (rows.length * Rp.sz α)).take (l * sz) := by rw [List.take_take, Nat.min_eq_left (by rw [hsz]; exact Nat.mul_le_mul_right _ (by omega))]
            rw [e2, h7, e1, hsz, ← hf, List.take_left]
          have hlo : off + l * sz ≤ cs.length := by omega
          have hd : (cs.take (off + l * sz) ++ (List.replicate (rows.length - l) zc).flatten ++ cs.drop (off + l * sz + (List.replicate (rows.length - l) zc).flatten.length)).drop off = (cs.drop off).take (l * sz) ++ ((List.replicate (rows.length - l) zc).flatten ++ cs.drop (off + l * sz + (List.replicate (rows.length - l) zc).flatten.length)) := by
            rw [List.append_assoc, List.drop_append, List.drop_take, Nat.add_sub_cancel_left, List.length_take, Nat.sub_eq_zero_of_le (by omega), List.drop_zero]
          rw [hd, List.flatten_append, t1, ← List.append_assoc]
          have hl2 : (rows.take l ++ List.replicate (rows.length - l) zc).length * Rp.sz α = ((cs.drop off).take (l * sz) ++ (List.replicate (rows.length - l) zc).flatten).length := by
            rw [List.length_append, List.length_append, List.length_take, List.length_replicate, List.length_take, List.length_drop, hfl, Nat.min_eq_left (by omega), Nat.min_eq_left (by omega), hsz, ← Nat.add_mul]
          rw [hl2, List.take_left]
        · have hrep : ∀ m, Rows2 G (List.replicate m zc) (List.replicate m z) := by
            intro m
            induction m with
            | zero => trivial
            | succ m ih => exact ⟨hz G, ih⟩
          rw [← hl1]
          exact (h3.take l).append (hrep _)
end
end Go.Gx
