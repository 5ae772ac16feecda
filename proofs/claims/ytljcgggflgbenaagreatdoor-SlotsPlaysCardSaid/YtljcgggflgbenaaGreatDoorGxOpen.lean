/- What comes in, as it reads, is data over memory that stays; and the row's last step. No condition. -/
import Derived.Test.YtljcgggflgbenaaGreatDoorGxMap
import Derived.ChangeArms
import Derived.ProofKit
import Derived.SizedLaws
import Derived.ChangeOld
import Derived.OpenShut
import Derived.Below
set_option linter.all false
namespace Go.Gx
open Go Go.RowKit Go.ChangeShapes Go.WideShapes

/-- The whole heap stays. -/
def hG (W : World) : Gh := fun b => W.heap[b]?
theorem hG_holds (W : World) : Holds (hG W) W := fun _ _ h => h
/-- Whatever reads at type T is a datum. -/
def Opn (P : Program) (α : Type) [Rp α] (T : Nat) : Prop :=
  ∀ {H : Type} (enc : TypeId × Value → H) (W : World) (sp : Nat → Bool) (fuel : Nat) (cs : List Value) (d : DataW H) (ps : List MemPlace),
    DataW.trod enc P W 0 sp true fuel T cs = some (d, ps) → (∀ n ∈ d.weights P T, n ≤ reachBytes) → ∃ x : α, Rp.Is (hG W) cs x
section
variable {P : Program} {T : Nat}
theorem opnInt (hT : P.underlying T = some (.int .i64)) : Opn P Int T := by
  intro H enc W sp fuel cs d ps h _
  obtain ⟨n, h1, _, _⟩ := DataW.trod_int hT h
  exact ⟨n, h1⟩
theorem opnU8 (hT : P.underlying T = some (.int .u8)) : Opn P UInt8 T := by
  intro H enc W sp fuel cs d ps h _
  obtain ⟨n, h1, _, h3⟩ := DataW.trod_int hT h
  have hr : 0 ≤ n ∧ n < 256 := by
    simp [Lit.wf] at h3
    have e1 : IntKind.u8.min = 0 := rfl
    have e2 : IntKind.u8.max = 255 := rfl
    rw [e1, e2] at h3
    omega
  refine ⟨UInt8.ofNat n.toNat, ?_⟩
  subst h1
  show _ = [Value.int .u8 (((UInt8.ofNat n.toNat).toNat : Nat) : Int)]
  have : (UInt8.ofNat n.toNat).toNat = n.toNat := by simp; omega
  rw [this]
  congr 2
  omega
theorem weightsAll_mem {H : Type} {e : Nat} : ∀ {l : List (DataW H)} {x : DataW H} {n : Nat}, x ∈ l → n ∈ x.weights P e → n ∈ DataW.weightsAll P e l
  | y :: r, x, n, hx, hn => by
    simp only [DataW.weightsAll, List.mem_append]
    rcases List.mem_cons.1 hx with rfl | hx
    · exact .inl hn
    · exact .inr (weightsAll_mem hx hn)
theorem cells_row {W : World} {base n : Nat} {a : Addr} {cs : List Value} (h : W.cells? base a n = some cs) (hn : 0 < n) : a.spot = none ∧ cs.length = n ∧ RowG (hG W) a.block a.off cs := by
  unfold World.cells? at h
  split at h
  · have hl := mapM_some_length h
    have hg := mapM_some_get h
    have h0 := hg 0 0 (by simp [hn])
    have hlen : cs.length = n := by simpa using hl
    have hc0 : cs[0]? = some cs[0] := List.getElem?_eq_getElem (by omega)
    rw [hc0] at h0
    have ha0 : a.add 0 = a := by simp [Addr.add]
    rw [ha0] at h0
    unfold World.cell? at h0
    split at h0
    · rename_i c T fz hb
      split at h0
      · cases h0
      · rename_i hsp
        have hs : a.spot = none := by simpa using hsp
        refine ⟨hs, hlen, ⟨c, T, fz, hb, fun j u hj => ?_⟩⟩
        have hjn : j < n := by have := (List.getElem?_eq_some_iff.1 hj).1; omega
        have hj' := hg j j (by simp [hjn])
        rw [hj] at hj'
        by_cases hz : j = 0
        · subst hz
          rw [ha0] at hj'
          unfold World.cell? at hj'
          rw [hb] at hj'
          simpa [hs] using hj'
        · unfold World.cell? at hj'
          simpa [Addr.add, hz, hb] using hj'
    · cases h0
  · cases h
theorem opnSlice {α : Type} [Rp α] {e : Nat} (hT : P.underlying T = some (.slice e)) (hc : P.cellsOf e = Rp.sz α) (hz : 0 < Rp.sz α) (hb : 0 < P.bytesOf e) (h : Opn P α e) : Opn P (List α) T := by
  intro H enc W sp fuel cs d ps hd hw
  rcases DataW.trod_slice hT hd with ⟨h1, h2⟩ | ⟨a, len, cap, elems, rest, n, _, h1, h2, _, h4, h5, h6, h7, _, _⟩
  · exact ⟨[], _, h1, Sl.nil_ _⟩
  · injection h2 with h2 h2'
    subst h2
    simp only [DataW.weights, hT, List.mem_cons, List.mem_append] at hw
    -- each element
    have hel : ∀ i, i < len → ∃ row x, W.cells? 0 (a.add (i * P.cellsOf e)) (P.cellsOf e) = some row ∧ Rp.Is (hG W) row (x : α) := by
      intro i hi
      have h8 := h7 i hi
      rw [List.getElem?_eq_getElem (by omega)] at h8
      obtain ⟨row, hr1, hr2⟩ := Option.bind_eq_some_iff.1 h8
      obtain ⟨x, hx⟩ := h enc W sp n row elems[i].1 elems[i].2 hr2 (fun m hm => hw m (.inr (.inl (weightsAll_mem (List.mem_map.2 ⟨elems[i], List.getElem_mem _, rfl⟩) hm))))
      exact ⟨row, x, hr1, hx⟩
    -- as a list
    have hxs : ∀ m, m ≤ len → ∃ xs : List α, xs.length = m ∧ ∀ k x, xs[k]? = some x → ∃ row, W.cells? 0 (a.add (k * P.cellsOf e)) (P.cellsOf e) = some row ∧ Rp.Is (hG W) row x := by
      intro m
      induction m with
      | zero => intro _; exact ⟨[], rfl, fun k x hk => by simp at hk⟩
      | succ m ih =>
        intro hm
        obtain ⟨xs, g1, g2⟩ := ih (by omega)
        obtain ⟨row, x, g3, g4⟩ := hel m (by omega)
        refine ⟨xs ++ [x], by simp [g1], fun k y hk => ?_⟩
        by_cases hkm : k < m
        · rw [List.getElem?_append_left (by omega)] at hk; exact g2 k y hk
        · rw [List.getElem?_append_right (by omega)] at hk
          have hk0 : k - xs.length = 0 := by
            rcases Nat.eq_zero_or_pos (k - xs.length) with h | h
            · exact h
            · rw [List.getElem?_eq_none (by simp; omega)] at hk; cases hk
          rw [hk0] at hk
          simp at hk
          subst hk
          rw [show k = m by omega]
          exact ⟨row, g3, g4⟩
    obtain ⟨xs, g1, g2⟩ := hxs len (Nat.le_refl _)
    have hlen : len ≤ maxL := by
      have h9 := hw _ (.inl rfl)
      simp only [List.length_map] at h9
      have h10 : elems.length * 1 ≤ (elems.length + rest.length) * P.bytesOf e := Nat.mul_le_mul (by omega) (by omega)
      simp only [reachBytes, maxL] at *
      omega
    refine ⟨xs, _, h1, some a, cap, by rw [g1], by omega, by omega, fun k x hk => ?_⟩
    obtain ⟨row, g3, g4⟩ := g2 k x hk
    have g5 := cells_row g3 (by omega)
    -- the address
    have hk' : k < len := by have := (List.getElem?_eq_some_iff.1 hk).1; omega
    obtain ⟨row0, x0, g6, _⟩ := hel 0 (by omega)
    have g7 := (cells_row g6 (by omega)).1
    have ha0 : a.add (0 * P.cellsOf e) = a := by simp [Addr.add]
    rw [ha0] at g7
    refine ⟨a.block, a.off, row, by cases a; simp at g7; subst g7; rfl, ?_, g4⟩
    have g8 := g5.2.2
    rw [← hc]
    unfold Addr.add at g8
    split at g8
    · rename_i hz'; rw [hz', Nat.add_zero]; exact g8
    · exact g8
/-- The fields of a struct, one by one. -/
def OpnAll {H : Type} (P : Program) (enc : TypeId × Value → H) (W : World) (sp : Nat → Bool) (cs : List Value) : List (Nat × Nat) → List (DataW H) → Prop
  | [], [] => True
  | (t, o) :: pl, d :: ds => (∃ f p, DataW.trod enc P W 0 sp true f t ((cs.drop o).take (P.cellsOf t)) = some (d, p)) ∧ (∀ n ∈ d.weights P t, n ≤ reachBytes) ∧ OpnAll P enc W sp cs pl ds
  | _, _ => False
def fieldsOf (P : Program) (t : Nat) (L : List (Nat × Nat)) : Bool := match P.underlying t with | some (.struct fs) => fs.toList.map (fun f => (f.type, f.offset)) == L | _ => false
theorem opn_fields {H : Type} {enc : TypeId × Value → H} {W : World} {sp : Nat → Bool} {fuel : Nat} {cs : List Value} {d : DataW H} {ps : List MemPlace} {pl : List (Nat × Nat)} (hf : fieldsOf P T pl = true)
    (h : DataW.trod enc P W 0 sp true fuel T cs = some (d, ps)) (hw : ∀ n ∈ d.weights P T, n ≤ reachBytes) : cs.length = P.cellsOf T ∧ ∃ ds, OpnAll P enc W sp cs pl ds := by
  unfold fieldsOf at hf
  split at hf
  · rename_i fs hu
    have hf := eq_of_beq hf
    obtain ⟨xs, n, _, h2, h3, h4, h5⟩ := DataW.trod_struct hu h
    injection h2 with h2 _
    subst h2
    refine ⟨h3, xs.map (·.1), ?_⟩
    simp only [DataW.weights, hu] at hw
    have key : ∀ (l : List Field) (pl : List (Nat × Nat)) (ys : List (DataW H × List MemPlace)), l.map (fun f => (f.type, f.offset)) = pl → ys.length = l.length →
        (∀ (i : Nat) (f : Field), l[i]? = some f → DataW.trod enc P W 0 sp true n f.type ((cs.drop f.offset).take (P.cellsOf f.type)) = ys[i]?) →
        (∀ m ∈ DataW.weightsEach P (l.map (·.type)) (ys.map (·.1)), m ≤ reachBytes) → OpnAll P enc W sp cs pl (ys.map (·.1)) := by
      intro l
      induction l with
      | nil =>
        intro pl ys hpl hl _ _
        subst hpl
        have : ys = [] := List.length_eq_zero_iff.1 (by simpa using hl)
        subst this
        trivial
      | cons f l ih =>
        intro pl ys hpl hl hg hw
        cases ys with
        | nil => simp at hl
        | cons y ys =>
          subst hpl
          simp only [List.map_cons, DataW.weightsEach, List.mem_append] at hw
          refine ⟨⟨n, y.2, by simpa using hg 0 f (by simp)⟩, fun m hm => hw m (.inl hm), ih _ ys rfl (by simpa using hl) (fun i g hi => by simpa using hg (i + 1) g (by simpa using hi)) (fun m hm => hw m (.inr hm))⟩
    exact key fs.toList pl xs hf (by simpa using h4) (fun i f hi => h5 i f (by simpa using hi)) hw
  · cases hf
/-- A row is its pieces. -/
def segs (cs : List Value) : Nat → List Nat → List Value
  | _, [] => []
  | o, s :: r => (cs.drop o).take s ++ segs cs (o + s) r
theorem segs_drop (cs : List Value) : ∀ (l : List Nat) (o : Nat), cs.length ≤ o + l.sum → segs cs o l = cs.drop o
  | [], o, h => (List.drop_of_length_le (by simpa using h)).symm
  | s :: r, o, h => by
    rw [segs, segs_drop cs r (o + s) (by simp at h; omega), ← List.drop_drop, List.take_append_drop]
theorem segs_eq {cs : List Value} {l : List Nat} (h : cs.length ≤ l.sum) : cs = segs cs 0 l := by rw [segs_drop cs l 0 (by omega)]; simp
theorem opnDig {e : Nat} (hT : P.underlying T = some (.array 32 e)) (he : P.underlying e = some (.int .u8)) (hc : P.cellsOf T = 32) (hce : P.cellsOf e = 1) : Opn P Dig T := by
  intro H enc W sp fuel cs d ps hd _
  obtain ⟨xs, n, _, _, hl0, hxl, hg⟩ := DataW.trod_array hT hd
  have hl : cs.length = 32 := by rw [hl0, hc]
  have hel : ∀ i, i < 32 → ∃ b : UInt8, cs[i]? = some (.int .u8 (b.toNat : Int)) := by
    intro i hi
    have h8 := hg i hi
    rw [List.getElem?_eq_getElem (by omega : i < xs.length)] at h8
    obtain ⟨b, hb⟩ := opnU8 he enc W sp n _ xs[i].1 xs[i].2 h8 (by
      obtain ⟨_, _, h10, _⟩ := DataW.trod_int he h8
      intro m hm
      have h11 := congrArg Prod.fst h10
      simp only [] at h11
      rw [h11] at hm
      simp [DataW.weights] at hm)
    have hb : (cs.drop (i * P.cellsOf e)).take (P.cellsOf e) = [.int .u8 (b.toNat : Int)] := hb
    rw [hce, Nat.mul_one] at hb
    refine ⟨b, ?_⟩
    have := congrArg (·[0]?) hb
    simpa [List.getElem?_take, List.getElem?_drop] using this
  have hbs : ∀ m, m ≤ 32 → ∃ l : List UInt8, l.length = m ∧ cs.take m = l.map (fun b => .int .u8 (b.toNat : Int)) := by
    intro m
    induction m with
    | zero => intro _; exact ⟨[], rfl, by simp⟩
    | succ m ih =>
      intro hm
      obtain ⟨l, g1, g2⟩ := ih (by omega)
      obtain ⟨b, hb⟩ := hel m (by omega)
      exact ⟨l ++ [b], by simp [g1], by rw [List.take_add_one, hb, g2]; simp⟩
  obtain ⟨l, g1, g2⟩ := hbs 32 (Nat.le_refl _)
  refine ⟨⟨l, g1⟩, ?_⟩
  rw [List.take_of_length_le (by omega)] at g2
  exact g2
end
def isStruct (P : Program) (t : Nat) : Bool := match P.underlying t with | some (.struct _) => true | _ => false
theorem struct_of {P : Program} {t : Nat} (h : isStruct P t = true) : ∃ fs, P.underlying t = some (.struct fs) := by
  unfold isStruct at h
  split at h
  · exact ⟨_, by assumption⟩
  · cases h
end Go.Gx
