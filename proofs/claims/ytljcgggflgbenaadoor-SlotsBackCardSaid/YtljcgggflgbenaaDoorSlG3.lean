/- What functions of the slots seat return, part 3. No condition. -/
import Derived.Test.YtljcgggflgbenaaDoorSlG2
import Derived.Test.YtljcgggflgbenaaDoorGxSched
import Derived.Test.YtljcgggflgbenaaDoorSlObj
set_option linter.all false
namespace Go.Proofs.YtljcgggflgbenaaDoor
open Go Go.Gx Go.RowKit
theorem idxG_ge {α : Type} {p : α → Bool} : ∀ (l : List α) (k : Nat), (idxG p l k = -1 ∧ ∀ x ∈ l, p x = false) ∨ ∃ i, k ≤ i ∧ idxG p l k = (i : Int) ∧ i - k + 1 ≤ l.length ∧ l.take (i - k) = (l.take (i - k + 1)).filter (fun x => !p x)
  | [], k => .inl ⟨rfl, by simp⟩
  | x :: r, k => by
    cases hp : p x with
    | true => exact .inr ⟨k, Nat.le_refl _, by simp [idxG, hp], by simp, by simp [hp]⟩
    | false =>
      simp only [idxG, hp, cond_false]
      rcases idxG_ge r (k + 1) with ⟨h1, h2⟩ | ⟨i, h1, h2, h3, h4⟩
      · exact .inl ⟨h1, fun y hy => (List.mem_cons.1 hy).elim (fun e => by rw [e]; exact hp) (h2 y)⟩
      · refine .inr ⟨i, by omega, h2, by simp; omega, ?_⟩
        rw [show i - k = (i - (k + 1)) + 1 by omega]
        simp only [List.take_succ_cons, List.filter_cons, hp, Bool.not_false, if_true]
        rw [h4]
theorem idxG_nat {α : Type} {p : α → Bool} {l : List α} (h : (idxG p l 0 == (-1)) = false) : ∃ i : Nat, idxG p l 0 = (i : Int) ∧ i + 1 ≤ l.length ∧ l.take i = (l.take (i + 1)).filter (fun x => !p x) ∧ True := by
  rcases idxG_ge (p := p) l 0 with ⟨h1, _⟩ | ⟨i, _, h2, h3, h4⟩
  · rw [h1] at h; cases h
  · exact ⟨i, h2, by simpa using h3, by simpa using h4, trivial⟩
theorem filter_none {α : Type} {p : α → Bool} {l : List α} (h : (idxG p l 0 == (-1)) = true) : l.filter (fun x => !p x) = l := by
  rcases idxG_ge (p := p) l 0 with ⟨_, h2⟩ | ⟨i, _, h2, _, _⟩
  · rw [List.filter_eq_self]; intro x hx; simp [h2 x hx]
  · rw [h2] at h; simp at h
section
variable {p : Stand → Bool} {s cur : List Stand} {i j : Nat} {x : Stand}
theorem df_get (hJ : cur.drop j = s.drop j) (hx : cur[j]? = some x) : s[j]? = some x := by
  have : (cur.drop j)[0]? = (s.drop j)[0]? := by rw [hJ]
  rw [List.getElem?_drop, List.getElem?_drop] at this
  rw [← hx]; exact this.symm
theorem df_skip (_ : i < j) (hJ : cur.drop j = s.drop j) (hI : cur.take i = (s.take j).filter (fun x => !p x)) (hx : cur[j]? = some x) (hp : p x = true) : cur.take i = (s.take (j + 1)).filter (fun x => !p x) := by
  rw [List.take_add_one, df_get hJ hx, List.filter_append, ← hI]; simp [hp]
theorem df_keep (hij : i < j) (hJ : cur.drop j = s.drop j) (hI : cur.take i = (s.take j).filter (fun x => !p x)) (hx : cur[j]? = some x) (hp : p x = false) : (cur.set i x).take (i + 1) = (s.take (j + 1)).filter (fun x => !p x) := by
  have hl := (List.getElem?_eq_some_iff.1 hx).1
  rw [List.take_add_one, List.take_add_one, df_get hJ hx, List.filter_append, ← hI, List.getElem?_set, if_pos rfl, if_pos (by omega), List.take_set_of_le (Nat.le_refl _)]
  simp [hp]
theorem df_drop (hJ : cur.drop j = s.drop j) : cur.drop (j + 1) = s.drop (j + 1) := by
  rw [← List.drop_drop, ← List.drop_drop, hJ]
theorem df_drop2 (hij : i < j) (hJ : cur.drop j = s.drop j) : (cur.set i x).drop (j + 1) = s.drop (j + 1) := by
  rw [List.drop_set_of_lt (by omega)]; exact df_drop hJ
theorem df_end {z : List Stand} (hl : cur.length = s.length) (hij : i < j) (hI : cur.take i = (s.take j).filter (fun x => !p x)) (hj : s.length ≤ j) (hi : i ≤ cur.length) : (cur.take i ++ z).take i = s.filter (fun x => !p x) := by
  rw [List.take_of_length_le (l := s) hj] at hI
  rw [← hI, List.take_append_of_le_length (by simp; omega), List.take_take, Nat.min_self]
end
theorem nil_of {α : Type} [Rp α] {G : Gh} {A : Option Addr} {n cap : Nat} {s : List α} (h : Sl G (.slice A n cap) s) (hA : Option.isNone A = true) : s = [] := by
  obtain ⟨A', cap', e1, _, _, e4⟩ := h
  cases s with
  | nil => rfl
  | cons x r =>
    obtain ⟨b, o, _, q, _⟩ := e4 0 x (by simp)
    injection e1 with e1
    rw [e1, q] at hA; cases hA

abbrev kM : Mark → Value := fun x => .agg x.cells.toArray
theorem ua38q : Tryd.prog.underlying 38 = some (.array 32 5) := by kernel_rfl
theorem ub5q : Tryd.prog.underlying 5 = some (.int .u8) := by kernel_rfl
theorem on5q : oneOk Tryd.prog 5 = true := by kernel_rfl
theorem sz5' : (Tryd.prog.info? 5).map (·.size) = some 1 := by kernel_rfl
theorem rw38q : rowOk Tryd.prog 38 32 = true := by kernel_rfl
theorem on3q : oneOk Tryd.prog 3 = true := by kernel_rfl
theorem un3q : Tryd.prog.underlying 3 = some (.int .i64) := by kernel_rfl
theorem cells_num (x : Mark) : ∀ v ∈ x.cells, isNum v = true := by
  intro v hv
  simp only [Mark.cells, List.mem_cons, List.mem_append, List.not_mem_nil, or_false] at hv
  rcases hv with rfl | hv
  · rfl
  · simp only [Dig.cells, List.mem_map] at hv
    obtain ⟨b, _, rfl⟩ := hv; rfl
theorem digcells_inj {a b : Dig} (h : a.cells = b.cells) : a = b := by
  have : a.l = b.l := by
    have := h
    unfold Dig.cells at this
    exact (List.map_inj_right (fun x y hxy => by
      simp only [Value.int.injEq, true_and] at hxy
      exact UInt8.toNat_inj.1 (by omega))).1 this
  cases a; cases b; simp only [] at this; subst this; rfl
theorem cells_inj (x y : Mark) (h : x.cells = y.cells) : x = y := by
  simp only [Mark.cells, List.append_nil, List.cons.injEq, Value.int.injEq, true_and] at h
  have := digcells_inj h.2
  cases x; cases y; simp only [] at h this; rw [h.1, this]
theorem fa98q : fieldsAre Tryd.prog 98 [(3, 0), (38, 1)] = true := by kernel_rfl
theorem by38q : bytes32 Tryd.prog 38 = true := by kernel_rfl
theorem eq38q (d : Nat) (x y : Dig) (w : World) : (Op.equalIn (d + 2) 38 (.agg x.cells.toArray) (.agg y.cells.toArray)).run Tryd.prog w = .ok (decide (x = y)) w := run_equalIn_dig by38q x y w
theorem rw38q' : rowOk Tryd.prog 38 32 = true := by kernel_rfl
theorem eq98q (d : Nat) (x y : Mark) (w : World) : (Op.equalIn (d + 4) 98 (.agg x.cells.toArray) (.agg y.cells.toArray)).run Tryd.prog w = .ok (decide (x = y)) w := by
  have h : decide (x = y) = ((x.seq == y.seq) && (decide (x.dig = y.dig) && true)) := by rw [Bool.eq_iff_iff]; cases x; cases y; simp
  rw [h]; exact run_equalIn_fields fa98q ⟨_, _, _, _, run_part_one on3q (v := .int .i64 x.seq) (by simp [Mark.cells]), run_part_one on3q (v := .int .i64 y.seq) (by simp [Mark.cells]), fun w => run_equalIn_int w _ 3 _ .i64 _ _ un3q, ⟨_, _, _, _, run_part_row' rw38q' (r := x.dig.cells) (by simp [Mark.cells]), run_part_row' rw38q' (r := y.dig.cells) (by simp [Mark.cells]), fun w => eq38q _ x.dig y.dig w, rfl, rfl⟩, rfl⟩ w
theorem keyL98 : KeyL Tryd.prog 98 kM := keyL_row fa98q cells_num (fun x y w => eq98q 9996 x y w) cells_inj (fun b x w => checkKey_struct fa98q b 9999 w (fun p hp => by
  simp only [List.mem_cons, List.not_mem_nil, or_false] at hp
  rcases hp with rfl | rfl
  · exact ⟨_, run_part_one on3q (v := .int .i64 x.seq) (by simp [Mark.cells]) w, checkKey_int un3q b 9998 _ w⟩
  · exact ⟨_, run_part_row rw38q w, checkKey_array ua38q ub5q on5q sz5' b 9997 _ (by simp [Mark.cells]) w⟩))
def prevQ (l : List Stand) (k : Nat) : Option Stand := if k = 0 then none else l[k - 1]?
theorem prevQ_zero {l : List Stand} {k : Nat} (h : decide (0 < ((k : Nat) : Int)) = false) : prevQ l k = none := by
  have := of_decide_eq_false h; unfold prevQ; rw [if_pos (by omega)]
theorem prevQ_of {l : List Stand} {k : Nat} {y : Stand} (h : decide (0 < ((k : Nat) : Int)) = true) (hy : l[k - 1]? = some y) : prevQ l k = some y := by
  have := of_decide_eq_true h; unfold prevQ; rw [if_neg (by omega), hy]
theorem prevQ_succ {l : List Stand} {k : Nat} {y : Stand} (hy : l[k]? = some y) : prevQ l (k + 1) = some y := by unfold prevQ; rw [if_neg (by omega)]; exact hy
def lePrev (p : Option Stand) (a : Stand) : Bool := match p with | none => false | some q => decide (a.seq ≤ q.seq)
def gePrev (p : Option Stand) (a : Stand) : Bool := match p with | none => false | some q => decide (0 ≤ ordS q a)
def pMayG (f : Int → Option SlotS) : Option Stand → List Stand → Bool
  | _, [] => true
  | p, a :: r => bif (f a.seq).isNone || !viewB a.view || lePrev p a then false else pMayG f (some a) r
def qMayG (f : Int → Option SlotS) : Option Stand → List (Int × Int) → List (Mark × Int) → List Stand → Bool
  | _, _, _, [] => true
  | p, D, E, a :: r => bif (f a.seq).isNone || !viewB a.view || gePrev p a || decide (4 < (mget (mput D a.seq (IntKind.wrap .i64 ((mget D a.seq).getD (0 : Int) + 1))) a.seq).getD (0 : Int)) || decide (1 < (mget (mput E (Mark.mk a.seq a.dig) (IntKind.wrap .i64 ((mget E (Mark.mk a.seq a.dig)).getD (0 : Int) + 1))) (Mark.mk a.seq a.dig)).getD (0 : Int)) then false
    else qMayG f (some a) (mput D a.seq (IntKind.wrap .i64 ((mget D a.seq).getD (0 : Int) + 1))) (mput E (Mark.mk a.seq a.dig) (IntKind.wrap .i64 ((mget E (Mark.mk a.seq a.dig)).getD (0 : Int) + 1))) r
theorem Ow.dropO {o : Option Bx} {T n cap l : Nat} {A : Option Addr} {xs : List Stand} {G : Gh} (h : Ow G o T (.slice A n cap) xs) (hl : l < xs.length) :
    Ow G o T (.slice (if cap = l then A else Option.map (fun a => a.add (l * 34)) A) (n - l) (cap - l)) (xs.drop l) := by
  obtain ⟨A', cap', e⟩ := h.form
  injection e with e1 e2 e3
  subst e2
  have hc := h.capLe
  obtain ⟨g, so, cs, rfl, rfl⟩ := h.addr hl
  rw [if_neg (by omega)]
  have := h.dropOwn (l := l) (Nat.le_of_lt hl)
  have e : Option.map (fun a : Addr => a.add (l * 34)) (some ⟨g, so, none⟩) = some ⟨g, so + l * 34, none⟩ := by
    unfold Addr.add; simp only [Option.map_some]; split
    · rename_i h0; rw [h0]; rfl
    · rfl
  rw [e]; exact this
theorem ob_keys (o : Option Bx) : (ob o).map (·.1) = (Option.toList o).map (·.1) := by cases o <;> rfl
theorem cover {H5 H : List (Nat × Obj)} {r : SlotB} {x y x' y' : Nat × Obj} {o1 o2 o3 : Obj} {bl : List Bx} (hp : H5.Perm (r.blocks ++ H)) (hx : x.1 = x'.1) (hy : y.1 = y'.1) :
    ∀ m ∈ List.map (·.1) (x :: y :: H5), m ∈ (bl ++ (Option.toList r.oq ++ [])).map (fun x : Bx => x.1) ∨ m ∈ (x' :: y' :: (r.p, o1) :: (r.m1, o2) :: (r.m2, o3) :: H).map (·.1) := by
  intro m hm
  have hq := (hp.map (·.1)).mem_iff (a := m)
  simp only [SlotB.blocks, List.map_cons, List.map_append, List.mem_cons, List.mem_append, ob_keys, List.map_nil, List.not_mem_nil, or_false] at hm hq ⊢
  rw [hq] at hm
  rcases hm with h | h | ((h | h | h | h) | h)
  · exact .inr (.inl (h.trans hx))
  · exact .inr (.inr (.inl (h.trans hy)))
  · exact .inr (.inr (.inr (.inl h)))
  · exact .inr (.inr (.inr (.inr (.inl h))))
  · exact .inr (.inr (.inr (.inr (.inr (.inl h)))))
  · exact .inl (.inr h)
  · exact .inr (.inr (.inr (.inr (.inr (.inr h)))))
theorem isJ_len {p : Stand → Stand → Int} : ∀ (j : Nat) (l : List Stand), (isJ p j l).length = l.length
  | 0, _ => rfl
  | j + 1, l => by
    unfold isJ
    cases decide (p (l.getD (j + 1) default) (l.getD j default) < 0) with
    | false => rfl
    | true => rw [cond_true, isJ_len]; simp
theorem isI_len {p : Stand → Stand → Int} : ∀ (f i : Nat) (l : List Stand), (isI p f i l).length = l.length
  | 0, _, _ => rfl
  | f + 1, i, l => by unfold isI; rw [isI_len, isJ_len]
theorem isortG_len {p : Stand → Stand → Int} (l : List Stand) : (isortG p l).length = l.length := isI_len _ _ _
/-- What holds of slots at any time. -/
structure SlOk (s : SlS) : Prop where
  low : 0 ≤ s.low ∧ s.low ≤ 9007199254740983
  q4 : ∀ k t, s.f k = some t → t.q.length ≤ 4
  dom : ∀ k, (s.f k).isSome = (decide (s.low < k) && decide (k ≤ s.low + 8))
def propQ (q : List Stand) (k : Int) (d : Dig) (v : Int) : List Stand :=
  isortG ordS ((bif decide ((4 : Int) ≤ (((q.filter (fun a => !decide (a.dig = d))).length : Nat) : Int)) then List.drop 1 (q.filter (fun a => !decide (a.dig = d))) else q.filter (fun a => !decide (a.dig = d))) ++ [Stand.mk k d v])
def propS (c : Crew) (t : SlotS) (k : Int) (d : Dig) (v : Int) : SlotS := lookS c (SlotS.mk (Wd.mk v d) t.prep t.pre t.com (propQ t.q k d v))
def propI (s : SlS) (v k : Int) (d : Dig) : SlS × Int :=
  bif !viewB v then (s, 190) else match s.f k with
  | none => (s, 150)
  | some t => bif goesI t.last v d != 0 then (s, goesI t.last v d) else (SlS.mk s.crew s.low (upd s.f k (propS s.crew t k d v)), 0)
def fillN (f : Int → Option SlotS) (lo : Int) : Nat → Int → Option SlotS
  | 0 => f
  | i + 1 => match fillN f lo i (lo + (i : Int)) with
    | none => upd (fillN f lo i) (lo + (i : Int)) newS
    | some _ => fillN f lo i
theorem upd_self {f : Int → Option SlotS} {k : Int} {t : SlotS} (h : f k = some t) : upd f k t = f := by
  funext x; unfold upd; split
  · rename_i e; subst e; exact h.symm
  · rfl
theorem fill_new {f F : Int → Option SlotS} {lo k : Int} {i : Nat} (hF : F = fillN f lo i) (hk : k = lo + i) (hf : F k = none) : upd F k newS = fillN f lo (i + 1) := by
  subst hF hk; simp only [fillN, hf]
theorem fill_old {f F : Int → Option SlotS} {lo k : Int} {i : Nat} {t : SlotS} (hF : F = fillN f lo i) (hk : k = lo + i) (hf : F k = some t) : upd F k t = fillN f lo (i + 1) := by
  rw [upd_self hf]; subst hF hk; simp only [fillN, hf]
theorem fill_end {l k : Int} {i : Nat} {F f : Int → Option SlotS} (h : 0 ≤ l ∧ l ≤ 9007199254740983) (hi : i ≤ 8) (hk : k = l + 1 + i) (hA : F = fillN f (l + 1) i) (hc : decide (k ≤ IntKind.wrap .i64 (l + 8)) = false) : fillN f (l + 1) 8 = F :=
  (lowk_end h hi hk hA hc).symm
theorem new_l7 {c : Crew} (h : (check c != 0) = false) : c.nodes.length ≤ 7 := by
  have h1 : check c = 0 := by simpa using h
  unfold check at h1
  cases h2 : decide (c.faults < 0) || (decide (2 < c.faults) || ((c.nodes.length : Int) != IntKind.wrap .i64 (IntKind.wrap .i64 (3 * c.faults) + 1))) with
  | true => rw [h2] at h1; cases h1
  | false =>
    simp only [Bool.or_eq_false_iff, decide_eq_false_iff_not, bne_eq_false_iff_eq] at h2
    obtain ⟨a, b, e⟩ := h2
    rw [IntWalk.i64_in (3 * c.faults) (by omega), IntWalk.i64_in _ (by omega)] at e
    omega
theorem new_l6 {c : Crew} (h : (check c != 0) = false) : c.nodes.length ≤ 1000000 := Nat.le_trans (new_l7 h) (by decide)
theorem new_le {c : Crew} (h : (check c != 0) = false) : c.nodes.length ≤ maxL := Nat.le_trans (new_l7 h) (by decide)
def newOk (c : Crew) (self low : Int) : Bool := !(check c != 0) && has c self && lowB low
theorem newOk_1 {c : Crew} {self low : Int} (h : newOk c self low = true) : (check c != 0) = false := by unfold newOk at h; cases hc : check c != 0 <;> simp_all
theorem newOk_2 {c : Crew} {self low : Int} (h : newOk c self low = true) : has c self = true := by unfold newOk at h; cases hc : has c self <;> simp_all
theorem newOk_3 {c : Crew} {self low : Int} (h : newOk c self low = true) : lowB low = true := by unfold newOk at h; cases hc : lowB low <;> simp_all
theorem lowB_of {low : Int} (h : lowB low = true) : 0 ≤ low ∧ low ≤ 9007199254740983 := by
  unfold lowB at h; simpa using h
theorem fillN_eq {f : Int → Option SlotS} {lo : Int} : ∀ (i : Nat) (x : Int), fillN f lo i x = if lo ≤ x ∧ x < lo + i then some ((f x).getD newS) else f x
  | 0, x => by rw [fillN, if_neg (by omega)]
  | i + 1, x => by
    have ih := fillN_eq (f := f) (lo := lo) i
    have ihx := ih x
    have ihk := ih (lo + i)
    rw [if_neg (by omega)] at ihk
    rw [fillN]
    by_cases hx : x = lo + i
    · subst hx
      rw [if_pos (by omega)]
      cases hf : f (lo + i) with
      | none =>
        rw [hf] at ihk; rw [ihk]; simp [upd]
      | some t => rw [hf] at ihk; rw [ihk]; simp [ihk]
    · have : (if lo ≤ x ∧ x < lo + ((i + 1 : Nat) : Int) then some ((f x).getD newS) else f x) = if lo ≤ x ∧ x < lo + (i : Int) then some ((f x).getD newS) else f x := by
        by_cases h1 : lo ≤ x ∧ x < lo + (i : Int)
        · rw [if_pos h1, if_pos (by omega)]
        · rw [if_neg h1, if_neg (by omega)]
      rw [this, ← ihx]
      cases fillN f lo i (lo + i) with
      | none => simp only [upd]; rw [if_neg (Ne.symm hx)]
      | some t => rfl
def newSl (c : Crew) (low : Int) : SlS := SlS.mk c low (fillN (fun _ => none) (low + 1) 8)
theorem fillOk {c : Crew} {low : Int} {f : Int → Option SlotS} (h : 0 ≤ low ∧ low ≤ 9007199254740983) (hq : ∀ k t, f k = some t → t.q.length ≤ 4) (hd : ∀ k t, f k = some t → low < k ∧ k ≤ low + 8) : SlOk (SlS.mk c low (fillN f (low + 1) 8)) := by
  refine ⟨h, fun k t ht => ?_, fun k => ?_⟩
  · simp only [fillN_eq] at ht
    split at ht
    · cases hf : f k with
      | none => rw [hf] at ht; simp at ht; subst ht; simp [newS]
      | some u => rw [hf] at ht; simp at ht; subst ht; exact hq k _ hf
    · exact hq k t ht
  · simp only [fillN_eq]
    by_cases hk : low + 1 ≤ k ∧ k < low + 1 + ((8 : Nat) : Int)
    · rw [if_pos hk]; simp; omega
    · rw [if_neg hk]
      cases hf : f k with
      | none => symm; simp; omega
      | some t => have := hd k t hf; omega
theorem newOk_ok {c : Crew} {self low : Int} (h : newOk c self low = true) : SlOk (newSl c low) := fillOk (lowB_of (newOk_3 h)) (fun _ _ h => by cases h) (fun _ _ h => by cases h)
theorem upd_isSome {f : Int → Option SlotS} {k : Int} {t u : SlotS} (h : f k = some t) (x : Int) : (upd f k u x).isSome = (f x).isSome := by
  unfold upd; split
  · rename_i e; subst e; rw [h]; rfl
  · rfl
theorem SlOk.updQ {s : SlS} {k : Int} {t u : SlotS} (h : SlOk s) (hk : s.f k = some t) (hu : u.q.length ≤ 4) : SlOk (SlS.mk s.crew s.low (upd s.f k u)) := by
  refine ⟨h.low, fun x y hy => ?_, fun x => ?_⟩
  · simp only [upd] at hy; split at hy
    · simp at hy; subst hy; exact hu
    · exact h.q4 x y hy
  · simp only [upd_isSome hk]; exact h.dom x
theorem SlOk.hear {b : Bool} {s : SlS} {node view k : Int} {d : Dig} {leads : Bool} (h : SlOk s) : SlOk (hearI b s node view k d leads).1 := by
  unfold hearI
  cases has s.crew node <;> cases viewB view <;> cases (!leads && (leaderI s.crew view == node)) <;> simp only [Bool.not_true, Bool.not_false, cond_true, cond_false] <;> try exact h
  cases hk : s.f k with
  | none => exact h
  | some x =>
    simp only []
    cases b <;> simp only [cond_true, cond_false]
    · cases saysI x.com node view d != 0
      · exact h.updQ hk (h.q4 k x hk)
      · exact h
    · cases saysI x.pre node view d != 0
      · exact h.updQ hk (h.q4 k x hk)
      · exact h
theorem lookS_q (c : Crew) (t : SlotS) : (lookS c t).q = t.q := by unfold lookS; cases readyI c t <;> rfl
theorem SlOk.prep {s : SlS} {node view k : Int} {d : Dig} (h : SlOk s) : SlOk (prepI s node view k d).1 := by
  have h1 := SlOk.hear (b := true) (node := node) (view := view) (k := k) (d := d) (leads := false) h
  unfold prepI
  cases (hearI true s node view k d false).2 == 0 with
  | false => exact h1
  | true =>
    rw [cond_true]
    cases hk : (hearI true s node view k d false).1.f k with
    | none => exact h1
    | some t => exact h1.updQ hk (by rw [lookS_q]; exact h1.q4 k t hk)
theorem propQ_len {q : List Stand} {k : Int} {d : Dig} {v : Int} (h : q.length ≤ 4) : (propQ q k d v).length ≤ 4 := by
  unfold propQ
  have h1 := List.length_filter_le (fun a => !decide (a.dig = d)) q
  rw [isortG_len, List.length_append, List.length_singleton]
  cases hc : decide ((4 : Int) ≤ (((q.filter (fun a => !decide (a.dig = d))).length : Nat) : Int)) with
  | true => rw [cond_true, List.length_drop]; omega
  | false => have := of_decide_eq_false hc; rw [cond_false]; omega
theorem SlOk.prop {s : SlS} {v k : Int} {d : Dig} (h : SlOk s) : SlOk (propI s v k d).1 := by
  unfold propI
  cases viewB v with
  | false => exact h
  | true =>
    rw [Bool.not_true, cond_false]
    cases hk : s.f k with
    | none => exact h
    | some t =>
      simp only []
      cases goesI t.last v d != 0 with
      | true => exact h
      | false => exact h.updQ hk (by unfold propS; rw [lookS_q]; exact propQ_len (h.q4 k t hk))
def setP (f : Int → Option SlotS) (a : Stand) : Int → Option SlotS := match f a.seq with | none => f | some t => upd f a.seq (SlotS.mk t.last (Wd.mk a.view a.dig) t.pre t.com t.q)
def setQ (f : Int → Option SlotS) (a : Stand) : Int → Option SlotS := match f a.seq with | none => f | some t => upd f a.seq (SlotS.mk (Wd.mk a.view a.dig) t.prep t.pre t.com (t.q ++ [a]))
abbrev f0 (low : Int) : Int → Option SlotS := fillN (fun _ => none) (low + 1) 8
def restI (s : SlS) (pl ql : List Stand) : SlS × Int :=
  bif !pMayG s.f none pl || !qMayG s.f none [] [] ql then (s, 2) else (SlS.mk s.crew s.low (ql.foldl setQ (pl.foldl setP (f0 s.low))), 0)
theorem pMayG_mem {f : Int → Option SlotS} : ∀ {l : List Stand} {p : Option Stand}, pMayG f p l = true → ∀ a ∈ l, (f a.seq).isSome = true
  | [], _, _, a, ha => by cases ha
  | x :: r, p, h, a, ha => by
    unfold pMayG at h
    cases hb : (f x.seq).isNone || !viewB x.view || lePrev p x with
    | true => rw [hb] at h; cases h
    | false =>
      rw [hb] at h
      rcases List.mem_cons.1 ha with rfl | ha
      · simp only [Bool.or_eq_false_iff] at hb
        cases hf : f a.seq with
        | none => rw [hf] at hb; simp at hb
        | some t => rfl
      · exact pMayG_mem h a ha
theorem qMayG_mem {f : Int → Option SlotS} : ∀ {l : List Stand} {p : Option Stand} {D : List (Int × Int)} {E : List (Mark × Int)}, qMayG f p D E l = true → ∀ a ∈ l, (f a.seq).isSome = true
  | [], _, _, _, _, a, ha => by cases ha
  | x :: r, p, D, E, h, a, ha => by
    unfold qMayG at h
    cases hf : f x.seq with
    | none => rw [hf] at h; simp at h
    | some t =>
      rcases List.mem_cons.1 ha with rfl | ha
      · rw [hf]; rfl
      · revert h
        generalize (_ || _ || _ || _ || _ : Bool) = b
        cases b with
        | true => intro h; cases h
        | false => intro h; exact qMayG_mem h a ha
theorem f0_isSome {low x : Int} : (f0 low x).isSome = (decide (low < x) && decide (x ≤ low + 8)) := by
  unfold f0; rw [fillN_eq]
  by_cases h : low + 1 ≤ x ∧ x < low + 1 + ((8 : Nat) : Int)
  · rw [if_pos h]; symm; simp; omega
  · rw [if_neg h]; symm; simp; omega
theorem f0_q {low x : Int} {t : SlotS} (h : f0 low x = some t) : t.q.length ≤ 0 := by
  unfold f0 at h; rw [fillN_eq] at h; split at h
  · simp at h; subst h; simp [newS]
  · cases h
theorem rs_dead {s : SlS} {F : Int → Option SlotS} {l : List Stand} {k : Nat} {x : Stand} (hok : SlOk s) (hm : ∀ a ∈ l, (s.f a.seq).isSome = true) (hx : l[k]? = some x) (hD : ∀ y, (F y).isSome = (f0 s.low y).isSome) (hf : F x.seq = none) : False := by
  have h1 := hm x (List.mem_of_getElem? hx)
  rw [hok.dom, ← f0_isSome, ← hD, hf] at h1
  cases h1
theorem upd_q {f : Int → Option SlotS} {k : Int} {t : SlotS} {n : Nat} (h : ∀ x u, f x = some u → u.q.length ≤ n) (ht : t.q.length ≤ n) : ∀ x u, upd f k t x = some u → u.q.length ≤ n := by
  intro x u hu; unfold upd at hu; split at hu
  · simp at hu; subst hu; exact ht
  · exact h x u hu
theorem eg43 : Tryd.prog.eqGuardType Tryd.prog.depth 43 = false := by kernel_rfl
theorem fa43 : fieldsAre Tryd.prog 43 [(3, 0), (38, 1), (3, 33)] = true := by kernel_rfl
theorem co31 : callOk Tryd.prog 31 = true := by kernel_rfl
theorem co51 : callOk Tryd.prog 51 = true := by kernel_rfl
theorem us33 : Tryd.prog.underlying 33 = some (.slice 43) := by kernel_rfl
theorem so98 : structOk Tryd.prog 98 [(0, 1), (1, 32)] = true := by kernel_rfl
theorem zero98 : (Tryd.prog.info? 98).bind (fun i => i.zero.map Value.cells) = some (((.int .i64 0) :: (Dig.zero.cells ++ [])) : List Value).toArray := by kernel_rfl
theorem sz98 : (Tryd.prog.info? 98).map (·.size) = some 33 := by kernel_rfl
theorem zv3 : (Tryd.prog.info? 3).bind (fun i => i.zero) = some (.int .i64 0) := by kernel_rfl
theorem mk95 : mapKV Tryd.prog 95 3 3 = true := by kernel_rfl
theorem row98 : rowOk Tryd.prog 98 33 = true := by kernel_rfl
theorem mk96 : mapKV Tryd.prog 96 98 3 = true := by kernel_rfl
theorem co38 : callOk Tryd.prog 38 = true := by kernel_rfl
theorem co36 : callOk Tryd.prog 36 = true := by kernel_rfl
theorem co35 : callOk Tryd.prog 35 = true := by kernel_rfl
theorem sz33 : (Tryd.prog.info? 33).map (·.size) = some 1 := by kernel_rfl
theorem co37 : callOk Tryd.prog 37 = true := by kernel_rfl
theorem co59 : callOk Tryd.prog 59 = true := by kernel_rfl
theorem co44 : callOk Tryd.prog 44 = true := by kernel_rfl
theorem co45 : callOk Tryd.prog 45 = true := by kernel_rfl
theorem so70 : structOk Tryd.prog 70 [(0, 2), (2, 1), (3, 1)] = true := by kernel_rfl
theorem zero70 : (Tryd.prog.info? 70).bind (fun i => i.zero.map Value.cells) = some ([(.int .i64 0), (.slice none 0 0), (.int .i64 0), (.map none)] : List Value).toArray := by kernel_rfl
theorem co46 : callOk Tryd.prog 46 = true := by kernel_rfl
theorem sz3 : (Tryd.prog.info? 3).map (·.size) = some 1 := by kernel_rfl
theorem co47 : callOk Tryd.prog 47 = true := by kernel_rfl
theorem co48 : callOk Tryd.prog 48 = true := by kernel_rfl
theorem eq43 (d : Nat) (x y : Stand) (w : World) : (Op.equalIn (d + 4) 43 (.agg x.cells.toArray) (.agg y.cells.toArray)).run Tryd.prog w = .ok (decide (x = y)) w := by
  have h : decide (x = y) = ((x.seq == y.seq) && (decide (x.dig = y.dig) && ((x.view == y.view) && true))) := by rw [Bool.eq_iff_iff]; cases x; cases y; simp
  rw [h]; exact run_equalIn_fields fa43 ⟨_, _, _, _, run_part_one one3 (v := .int .i64 x.seq) (by simp [Stand.cells]), run_part_one one3 (v := .int .i64 y.seq) (by simp [Stand.cells]), fun w => run_equalIn_int w _ 3 _ .i64 _ _ ui3, ⟨_, _, _, _, run_part_row' row38 (r := x.dig.cells) (by simp [Stand.cells]), run_part_row' row38 (r := y.dig.cells) (by simp [Stand.cells]), fun w => eq38 _ x.dig y.dig w, ⟨_, _, _, _, run_part_one one3 (v := .int .i64 x.view) (by simp [Stand.cells]), run_part_one one3 (v := .int .i64 y.view) (by simp [Stand.cells]), fun w => run_equalIn_int w _ 3 _ .i64 _ _ ui3, rfl, rfl⟩, rfl⟩, rfl⟩ w
theorem cloneI_ret (G0 : Gh) (w0 : World) (hw : Holds G0 w0) (vs : Value) (s : List Int) (hs : Sl G0 vs s) (hlen : s.length ≤ 1000000) :
    RetO Tryd.prog 45 #[vs] G0 w0 (fun G o v => ∃ A cap, v = (.slice A s.length cap) ∧ Ow G o 3 (.slice A s.length cap) s) := by
  have hC := Cx.refl hw
  have hB : Bxs G0 w0 w0.heap.size [] := Bxs.nil _ _ _
  obtain ⟨A1, cap2, rfl⟩ := hs.form
  refine callsOf Tryd.func45 rfl _ Tryd.ntmps45 rfl _ (argsCons argsNil (t := 0) rfl) ?_; intro Q0 hQ
  refine wcSeq ?_
  refine wcRegion ?_
  refine wlVal (opAssign rfl) rfl ?_
  refine wlThen ?_
  refine wcSeq ?_
  refine wcSeq ?_
  refine wcRegion ?_
  refine wlVal (opMove rfl) rfl ?_
  refine wlVal (opNilSlice rfl rfl isl51) rfl ?_
  refine wlThen ?_
  cases h3 : (Option.isNone A1)
  · skip
    refine wcCondF rfl ?_
    refine wcSkip ?_
    refine wcOf ?_
    refine wcSeq ?_
    refine wcRegion ?_
    refine wlBuildOwn (α := Int) (bl := []) (r := []) (ps := []) (xs := []) (rows := []) elo51 rfl rfl hC hB rfl rfl rfl trivial rfl ?_; intro g6 cs7 w hk hC hB hO8
    refine wlVal (opMove rfl) rfl ?_
    refine wlAppend (α := Int) (bl := []) (o := (some (g6, 3, cs7))) (r := []) elo51 hC hB rfl rfl hO8 hs (by simp; omega) rfl rfl ?_; intro A9 cap10 o11 w hC hB hO12
    refine wlVal (opAssign rfl) rfl ?_
    refine wlThen ?_
    refine wcRet ?_
    exact fun ac_ ha => hQ _ _ _ (results1 ha rfl rfl) ha.df (endO (bl := []) (o := o11) (r := []) hC hB ⟨_, _, rfl, hO12⟩)
  · skip
    refine wcCondT rfl ?_
    refine wcSeq ?_
    refine wcRegion ?_
    refine wlVal (opAssign rfl) rfl ?_
    refine wlThen ?_
    refine wcRet ?_
    exact fun ac_ ha => hQ _ _ _ (results1 ha rfl rfl) ha.df (endO (bl := []) (o := none) (r := []) hC hB (by have q := nil_of hs h3; subst q; exact ⟨_, _, rfl, (Ow.nil_ _ 3)⟩))

theorem rsame_ret (G0 : Gh) (w0 : World) (hw : Holds G0 w0) (vx : Value) (x : List Stand) (hx : Sl G0 vx x) (vy : Value) (y : List Stand) (hy : Sl G0 vy y) :
    RetS Tryd.prog 31 #[vx, vy] G0 w0 (.bool (decide (x = y))) := by
  have hC := Cx.refl hw
  have hB : Bxs G0 w0 w0.heap.size [] := Bxs.nil _ _ _
  obtain ⟨A1, cap2, rfl⟩ := hx.form
  obtain ⟨A3, cap4, rfl⟩ := hy.form
  refine callsOf Tryd.func31 rfl _ Tryd.ntmps31 rfl _ (argsCons (argsCons argsNil (t := 0) rfl) (t := 1) rfl) ?_; intro Q0 hQ
  refine wcSeq ?_
  refine wcRegion ?_
  refine wlVal (opAssign rfl) rfl ?_
  refine wlThen ?_
  refine wcSeq ?_
  refine wcSeq ?_
  refine wcRegion ?_
  refine wlVal (opMove rfl) rfl ?_
  refine wlVal (opLen rfl isl33) rfl ?_
  refine wlVal (opMove rfl) rfl ?_
  refine wlVal (opLen rfl isl33) rfl ?_
  refine wlVal (opNeq rfl rfl) rfl ?_
  refine wlThen ?_
  cases h5 : (((x.length : Nat) : Int)) != (((y.length : Nat) : Int))
  · skip
    refine wcCondF rfl ?_
    refine wcSkip ?_
    refine wcOf ?_
    refine wcSeq ?_
    refine wcSeq ?_
    refine wcRegion ?_
    refine wlVal (opAssign rfl) rfl ?_
    refine wlThen ?_
    refine wcBlock ?_
    refine WC.sub (wrInd (ι := Nat) (fun k => x.length - k) (fun k G w => Cx w0 G0 G w ∧ Bxs G w w0.heap.size [] ∧ Sl G (.slice A1 x.length cap2) x ∧ Sl G (.slice A3 y.length cap4) y ∧ k ≤ x.length ∧ x.take k = y.take k) (fun k => (((Env.nil.put 0 (.slice A1 x.length cap2)).put 1 (.slice A3 y.length cap4)).put 5 (.int .i64 (((k : Nat) : Int))))) ?_ (0) _ _ ⟨hC, hB, hx, hy, (by simp), rfl⟩) (fun _ ha => (((ha.start.cons ha (t := 0) rfl).cons ha (t := 1) rfl).cons ha (t := 5) rfl))
    rintro k G w N0 IH0 ⟨hC, hB, hx, hy, hk, hI⟩
    show WC _ _ _ _ (((Env.nil.put 0 (.slice A1 x.length cap2)).put 1 (.slice A3 y.length cap4)).put 5 (.int .i64 (((k : Nat) : Int)))) w
    refine wcSeq ?_
    refine wcSeq ?_
    refine wcRegion ?_
    refine wlVal (opMove rfl) rfl ?_
    refine wlVal (opMove rfl) rfl ?_
    refine wlVal (opLen rfl isl33) rfl ?_
    refine wlVal (opLssN rfl rfl) rfl ?_
    refine wlThen ?_
    cases h6 : decide (k < x.length)
    · skip
      refine wcCondF rfl ?_
      refine wcExit ?_
      refine wcOf ?_
      refine wcSeq ?_
      refine wcRegion ?_
      refine wlVal (opAssign rfl) rfl ?_
      refine wlThen ?_
      refine wcRet ?_
      exact fun ac_ ha => hQ _ _ _ (results1 ha rfl rfl) ha.df (endS hC hw (by have e1 := of_decide_eq_false h6; have e2 := h5; simp at e2; have e3 := hI; rw [List.take_of_length_le (by omega), List.take_of_length_le (by omega)] at e3; simp [e3]))
    · skip
      refine wcCondT rfl ?_
      refine wcSkip ?_
      refine wcOf ?_
      refine wcSeq ?_
      refine wcBlock ?_
      refine wcSeq ?_
      refine wcDrawS 9 [0, 0, 3, 7, 0, 0, 48, 112, 255] fmix (by kernel_rfl) (by kernel_rfl) rfl hC hB ?_; intro w hC hB
      refine wdRo 0 rfl (by kernel_rfl) rfl (fun _ => (opMove rfl)) rfl ?_
      refine wdRo 1 rfl (by kernel_rfl) rfl (fun _ => (opMove rfl)) rfl ?_
      obtain ⟨x7, hx8⟩ : ∃ y_, x[k]? = some y_ := ⟨_, List.getElem?_eq_getElem (of_decide_eq_true h6)⟩
      obtain ⟨b9, o10, row11, hA14, hr12, hi13⟩ := hx.elem hx8; subst hA14
      obtain rfl := hi13
      refine wdRo 2 rfl (by kernel_rfl) rfl (fun _ => (opIndexAddr rfl rfl slo33 (of_decide_eq_true h6))) rfl ?_
      refine wdTake 3 rfl (by kernel_rfl) rfl (opLoadRow (cs := x7.cells) rfl (RowG.range hC.holds hr12) row43 (by simp [Word.cells, Stand.cells, Wd.cells, Mark.cells])) rfl ?_
      refine wdRo 4 rfl (by kernel_rfl) rfl (fun _ => (opMove rfl)) rfl ?_
      refine wdRo 5 rfl (by kernel_rfl) rfl (fun _ => (opMove rfl)) rfl ?_
      obtain ⟨x15, hx16⟩ : ∃ y_, y[k]? = some y_ := ⟨_, List.getElem?_eq_getElem (by have e1 := of_decide_eq_true h6; have e2 := h5; simp at e2; omega)⟩
      obtain ⟨b17, o18, row19, hA22, hr20, hi21⟩ := hy.elem hx16; subst hA22
      obtain rfl := hi21
      refine wdRo 6 rfl (by kernel_rfl) rfl (fun _ => (opIndexAddr rfl rfl slo33 (by have e1 := of_decide_eq_true h6; have e2 := h5; simp at e2; omega))) rfl ?_
      refine wdTake 7 rfl (by kernel_rfl) rfl (opLoadRow (cs := x15.cells) rfl (RowG.range hC.holds hr20) row43 (by simp [Word.cells, Stand.cells, Wd.cells, Mark.cells])) rfl ?_
      refine wdRo 8 rfl (by kernel_rfl) rfl (fun _ => (opNeRow (eq43 _ x7 x15) eg43 rfl rfl)) rfl ?_
      refine wdDone (by kernel_rfl) ?_
      refine wcOf ?_
      cases h23 : decide (x7 = x15)
      · skip
        refine wcCondT rfl ?_
        refine wcSeq ?_
        refine wcRegion ?_
        refine wlVal (opAssign rfl) rfl ?_
        refine wlThen ?_
        refine wcRet ?_
        exact fun ac_ ha => hQ _ _ _ (results1 ha rfl rfl) ha.df (endS hC hw (by have e1 := h23; simp at e1; symm; simp; rintro rfl; exact e1 (Option.some.inj (hx8.symm.trans hx16))))
      · skip
        refine wcCondF rfl ?_
        refine wcSkip ?_
        refine wcOf ?_
        refine wcRegion ?_
        refine wlVal (opMove rfl) rfl ?_
        refine wlVal (opIncr rfl rfl (incr_ok (of_decide_eq_true h6) hx.le)) rfl ?_
        refine wlVal (opAssign rfl) rfl ?_
        refine wlRound ?_
        exact (IH0 (k + 1) _ _ ⟨hC, hB, hx, hy, (of_decide_eq_true h6), (by have e1 := h23; simp at e1; rw [List.take_add_one, List.take_add_one, hI, hx8, hx16, e1])⟩ (by have := of_decide_eq_true h6; simp; omega)).sub (fun _ ha => (((ha.start.cons ha (t := 0) rfl).cons ha (t := 1) rfl).cons ha (t := 5) rfl))
  · skip
    refine wcCondT rfl ?_
    refine wcSeq ?_
    refine wcRegion ?_
    refine wlVal (opAssign rfl) rfl ?_
    refine wlThen ?_
    refine wcRet ?_
    exact fun ac_ ha => hQ _ _ _ (results1 ha rfl rfl) ha.df (endS hC hw (by simp at h5; symm; simp; rintro rfl; exact h5 rfl))

theorem stands_ret (G0 : Gh) (w0 : World) (hw : Holds G0 w0) (vx : Value) (x : List Stand) (hx : Sl G0 vx x) (vy : Value) (y : List Stand) (hy : Sl G0 vy y) :
    RetS Tryd.prog 13 #[vx, vy] G0 w0 (.bool (decide (x = y))) := by
  have hC := Cx.refl hw
  have hB : Bxs G0 w0 w0.heap.size [] := Bxs.nil _ _ _
  obtain ⟨A1, cap2, rfl⟩ := hx.form
  obtain ⟨A3, cap4, rfl⟩ := hy.form
  refine callsOf Tryd.func13 rfl _ Tryd.ntmps13 rfl _ (argsCons (argsCons argsNil (t := 0) rfl) (t := 1) rfl) ?_; intro Q0 hQ
  refine wcSeq ?_
  refine wcRegion ?_
  refine wlVal (opAssign rfl) rfl ?_
  refine wlThen ?_
  refine wcSeq ?_
  refine wcRegion ?_
  refine wlVal (opMove rfl) rfl ?_
  refine wlVal (opMove rfl) rfl ?_
  refine wlCallS hC hB rfl co31 rfl rfl (rsame_ret _ _ hC.holds _ x hx _ y hy) ?_; intro w hk hC hB
  refine wlVal (opAssign rfl) rfl ?_
  refine wlThen ?_
  refine wcRet ?_
  exact fun ac_ ha => hQ _ _ _ (results1 ha rfl rfl) ha.df (endS hC hw rfl)

theorem idxF_ret (G0 : Gh) (w0 : World) (hw : Holds G0 w0) (vs : Value) (s : List Stand) (hs : Sl G0 vs s) (ff : FuncId) (cf : List Value) (pf : Stand → Bool) (kf : callOk Tryd.prog ff = true) (hf : ∀ (G : Gh) (w : World) (f_x0 : Stand), GLe G0 G → Holds G w → RetS Tryd.prog ff ([Value.agg f_x0.cells.toArray] ++ cf).toArray G w (.bool (pf f_x0))) :
    RetS Tryd.prog 51 #[vs, .func (.func ff) #[] cf.toArray] G0 w0 (.int .i64 (idxG pf s 0)) := by
  have hC := Cx.refl hw
  have hB : Bxs G0 w0 w0.heap.size [] := Bxs.nil _ _ _
  obtain ⟨A1, cap2, rfl⟩ := hs.form
  refine callsOf Tryd.func51 rfl _ Tryd.ntmps51 rfl _ (argsCons (argsCons argsNil (t := 0) rfl) (t := 1) rfl) ?_; intro Q0 hQ
  refine wcSeq ?_
  refine wcRegion ?_
  refine wlVal (opAssign rfl) rfl ?_
  refine wlThen ?_
  refine wcSeq ?_
  refine wcSeq ?_
  refine wcRegion ?_
  refine wlVal (opMove rfl) rfl ?_
  refine wlVal (opLen rfl isl33) rfl ?_
  refine wlVal (opMove rfl) rfl ?_
  refine wlThen ?_
  refine wcBlock ?_
  refine WC.sub (wrInd (ι := Nat) (fun k => s.length - k) (fun k G w => Cx w0 G0 G w ∧ Bxs G w w0.heap.size [] ∧ Sl G (.slice A1 s.length cap2) s ∧ idxG pf (s.drop k) k = idxG pf s 0) (fun k => ((((Env.nil.put 0 (.slice A1 s.length cap2)).put 1 (.func (.func ff) #[] cf.toArray)).put 7 (.int .i64 (((s.length : Nat) : Int)))).put 8 (.int .i64 (((k : Nat) : Int))))) ?_ (0) _ _ ⟨hC, hB, hs, rfl⟩) (fun _ ha => ((((ha.start.cons ha (t := 0) rfl).cons ha (t := 1) rfl).cons ha (t := 7) rfl).cons ha (t := 8) rfl))
  rintro k G w N0 IH0 ⟨hC, hB, hs, hI⟩
  show WC _ _ _ _ ((((Env.nil.put 0 (.slice A1 s.length cap2)).put 1 (.func (.func ff) #[] cf.toArray)).put 7 (.int .i64 (((s.length : Nat) : Int)))).put 8 (.int .i64 (((k : Nat) : Int)))) w
  refine wcSeq ?_
  refine wcRegion ?_
  refine wlVal (opLssN rfl rfl) rfl ?_
  refine wlThen ?_
  refine wcSeq ?_
  cases h3 : decide (k < s.length)
  · skip
    refine wcCondF rfl ?_
    refine wcExit ?_
    refine wcOf ?_
    refine wcSeq ?_
    refine wcRegion ?_
    refine wlVal (opAssign rfl) rfl ?_
    refine wlThen ?_
    refine wcRet ?_
    exact fun ac_ ha => hQ _ _ _ (results1 ha rfl rfl) ha.df (endS hC hw (by have e := hI; rw [List.drop_eq_nil_of_le (Nat.le_of_not_lt (of_decide_eq_false h3))] at e; simp [idxG, h3] at e; first | (simp [h3, e]; done) | (simp [h3, ← e]; done) | (simp [h3]; exact e)))
  · skip
    refine wcCondT rfl ?_
    refine wcSkip ?_
    refine wcOf ?_
    refine wcSeq ?_
    refine wcBlock ?_
    refine wcSeq ?_
    refine wcRegion ?_
    refine wlVal (opMove rfl) rfl ?_
    refine wlVal (opAssign rfl) rfl ?_
    refine wlThen ?_
    refine wcSeq ?_
    refine wcRegion ?_
    refine wlVal (opMove rfl) rfl ?_
    refine wlVal (opMove rfl) rfl ?_
    refine wlVal (opMove rfl) rfl ?_
    obtain ⟨x4, hx5⟩ : ∃ y_, s[k]? = some y_ := ⟨_, List.getElem?_eq_getElem (of_decide_eq_true h3)⟩
    obtain ⟨b6, o7, row8, hA11, hr9, hi10⟩ := hs.elem hx5; subst hA11
    obtain rfl := hi10
    refine wlVal (opIndexAddr rfl rfl slo33 (of_decide_eq_true h3)) rfl ?_
    refine wlVal (opLoadRow (cs := x4.cells) rfl (RowG.range hC.holds hr9) row43 (by simp [Word.cells, Stand.cells, Wd.cells, Mark.cells])) rfl ?_
    refine wlCallS hC hB rfl kf rfl rfl (hf _ _ x4 hC.gle hC.holds ) ?_; intro w hk hC hB
    refine wlThen ?_
    cases h12 : pf x4
    · skip
      refine wcCondF rfl ?_
      refine wcSkip ?_
      refine wcOf ?_
      refine wcRegion ?_
      refine wlVal (opIncr rfl rfl (incr_ok (of_decide_eq_true h3) hs.le)) rfl ?_
      refine wlVal (opMove rfl) rfl ?_
      refine wlRound ?_
      exact (IH0 (k + 1) _ _ ⟨hC, hB, hs, (by rw [← hI, drop_get hx5]; simp [idxG, h3, h12])⟩ (by have := of_decide_eq_true h3; simp; omega)).sub (fun _ ha => ((((ha.start.cons ha (t := 0) rfl).cons ha (t := 1) rfl).cons ha (t := 7) rfl).cons ha (t := 8) rfl))
    · skip
      refine wcCondT rfl ?_
      refine wcSeq ?_
      refine wcRegion ?_
      refine wlVal (opMove rfl) rfl ?_
      refine wlVal (opAssign rfl) rfl ?_
      refine wlThen ?_
      refine wcRet ?_
      exact fun ac_ ha => hQ _ _ _ (results1 ha rfl rfl) ha.df (endS hC hw (by have e := hI; rw [drop_get hx5] at e; simp [idxG, h3, h12] at e; first | (simp [h3, h12, e]; done) | (simp [h3, h12, ← e]; done) | (simp [h3, h12]; exact e)))

theorem prop1_ret (G0 : Gh) (w0 : World) (hw : Holds G0 w0) (a : Stand) (bd : Nat) (d : Dig) (hd : RowG G0 bd 0 d.cells) :
    RetS Tryd.prog 36 #[.agg a.cells.toArray, .pointer (some ⟨bd, 0, none⟩)] G0 w0 (.bool (decide (a.dig = d))) := by
  have hC := Cx.refl hw
  have hB : Bxs G0 w0 w0.heap.size [] := Bxs.nil _ _ _
  refine callsOf Tryd.func36 rfl _ Tryd.ntmps36 rfl _ (argsCons (argsCons argsNil (t := 0) rfl) (t := 1) rfl) ?_; intro Q0 hQ
  refine wcSeq ?_
  refine wcRegion ?_
  refine wlBox (cs := a.cells) hC hB rfl rfl rfl ?_; intro b1 w hk hC hB
  refine wlVal (opAssign rfl) rfl ?_
  refine wlThen ?_
  refine wcSeq ?_
  refine wcRegion ?_
  refine wlVal (opFieldAddr rfl fo43_1) rfl ?_
  refine wlVal (opLoadRow (cs := a.dig.cells) rfl (hB.range (i := 0) (m := 32) rfl (by simp [Word.cells, Stand.cells, Wd.cells, Mark.cells])) row38 (by simp [Word.cells, Stand.cells, Wd.cells, Mark.cells])) rfl ?_
  refine wlVal (opLoadRow (cs := d.cells) rfl (RowG.range hC.holds (hd.part (i := 0) (m := 32) (by simp [Word.cells, Stand.cells, Wd.cells, Mark.cells]))) row38 (by simp [Word.cells, Stand.cells, Wd.cells, Mark.cells])) rfl ?_
  refine wlVal (opEqRow (eq38 _ a.dig d) eg38 rfl rfl) rfl ?_
  refine wlVal (opAssign rfl) rfl ?_
  refine wlThen ?_
  refine wcRet ?_
  exact fun ac_ ha => hQ _ _ _ (results1 ha rfl rfl) ha.df (endS hC hw rfl)

theorem delf_ret (G0 : Gh) (w0 : World) (hw : Holds G0 w0) (vs : Value) (s : List Stand) (os : Option Bx) (hs : Ow G0 os 43 vs s) (hBs : Bxs G0 w0 w0.heap.size (Option.toList os) ((Option.toList os).map (·.1))) (ff : FuncId) (cf : List Value) (pf : Stand → Bool) (kf : callOk Tryd.prog ff = true) (hf : ∀ (G : Gh) (w : World) (f_x0 : Stand), GLe G0 G → Holds G w → RetS Tryd.prog ff ([Value.agg f_x0.cells.toArray] ++ cf).toArray G w (.bool (pf f_x0))) (hlen : s.length ≤ 1000000) :
    RetP Tryd.prog 35 #[vs, .func (.func ff) #[] cf.toArray] G0 w0 ((Option.toList os).map (·.1)) (fun G o v => ∃ A cap, v = (.slice A ((s.filter (fun dz_ => !pf dz_))).length cap) ∧ Ow G o 43 (.slice A ((s.filter (fun dz_ => !pf dz_))).length cap) ((s.filter (fun dz_ => !pf dz_)))) := by
  have hC := Cx.reflM ((Option.toList os).map (·.1)) hw
  have hB : Bxs G0 w0 w0.heap.size ([] ++ (Option.toList os ++ [])) ((Option.toList os).map (·.1)) := by simpa using hBs
  obtain ⟨A1, cap2, rfl⟩ := hs.form
  refine callsOf Tryd.func35 rfl _ Tryd.ntmps35 rfl _ (argsCons (argsCons argsNil (t := 0) rfl) (t := 1) rfl) ?_; intro Q0 hQ
  refine wcSeq ?_
  refine wcRegion ?_
  refine wlVal (opAssign rfl) rfl ?_
  refine wlThen ?_
  refine wcSeq ?_
  refine wcRegion ?_
  refine wlVal (opMove rfl) rfl ?_
  refine wlVal (opMove rfl) rfl ?_
  refine wlCallS hC hB rfl co51 rfl rfl (RetS.borrow (bl := []) (r := []) hs hC hB (by unfold maxL; omega) (fun G_ hglent hhlent hlent => idxF_ret _ _ hhlent _ s hlent _ _ pf kf (fun G w f_x0 hg hw  => hf G w f_x0 (fun b o h => hg b o (hglent b o (hC.gle b o h))) hw ))) ?_; intro w hk hC hB
  refine wlVal (opAssign rfl) rfl ?_
  refine wlThen ?_
  refine wcSeq ?_
  refine wcSeq ?_
  refine wcRegion ?_
  refine wlVal (opMove rfl) rfl ?_
  refine wlVal (opEql rfl rfl) rfl ?_
  refine wlThen ?_
  cases h3 : ((idxG pf s 0)) == ((-1))
  · skip
    obtain ⟨i0, hi0, hi1, hi2, hi3⟩ := idxG_nat (p := pf) (l := s) h3
    rw [hi0]
    refine wcCondF rfl ?_
    refine wcSkip ?_
    refine wcOf ?_
    refine wcSeq ?_
    refine wcSeq ?_
    refine wcRegion ?_
    refine wlVal (opMove rfl) rfl ?_
    refine wlVal (opIncr rfl rfl (by omega)) rfl ?_
    refine wlVal (opAssign rfl) rfl ?_
    refine wlThen ?_
    refine wcBlock ?_
    refine WC.sub (wrInd (ι := Nat × Nat × (Option Addr) × Nat × (Option Bx) × (List Stand)) (fun i => match i with | (j, i, curA, curC, curO, cur) => cur.length - j) (fun i G w => match i with | (j, i, curA, curC, curO, cur) => Cx w0 G0 G w ⟨((Option.toList os).map (·.1)), []⟩ ∧ Bxs G w w0.heap.size ([] ++ (Option.toList curO ++ [])) ⟨((Option.toList os).map (·.1)), []⟩ ∧ Ow G curO 43 (.slice curA cur.length curC) cur ∧ cur.length = s.length ∧ i < j ∧ j ≤ s.length ∧ cur.drop j = s.drop j ∧ cur.take i = (s.take j).filter (fun x => !pf x)) (fun i => match i with | (j, i, curA, curC, curO, cur) => ((((Env.nil.put 0 (.slice curA cur.length curC)).put 1 (.func (.func ff) #[] cf.toArray)).put 5 (.int .i64 (((i : Nat) : Int)))).put 6 (.int .i64 (((j : Nat) : Int))))) ?_ (i0 + 1, i0, A1, cap2, os, s) _ _ ⟨hC, hB, hs, rfl, (Nat.lt_succ_self _), hi1, rfl, hi2⟩) (fun _ ha => ((((ha.start.cons ha (t := 0) rfl).cons ha (t := 1) rfl).cons ha (t := 5) rfl).cons ha (t := 6) rfl))
    rintro ⟨j, i, curA, curC, curO, cur⟩ G w N0 IH0 ⟨hC, hB, hOcur, hlen2, hij, hjl, hJ, hI⟩
    show WC _ _ _ _ ((((Env.nil.put 0 (.slice curA cur.length curC)).put 1 (.func (.func ff) #[] cf.toArray)).put 5 (.int .i64 (((i : Nat) : Int)))).put 6 (.int .i64 (((j : Nat) : Int)))) w
    refine wcSeq ?_
    refine wcSeq ?_
    refine wcRegion ?_
    refine wlVal (opMove rfl) rfl ?_
    refine wlVal (opMove rfl) rfl ?_
    refine wlVal (opLen rfl isl33) rfl ?_
    refine wlVal (opLssN rfl rfl) rfl ?_
    refine wlThen ?_
    cases h4 : decide (j < cur.length)
    · skip
      refine wcCondF rfl ?_
      refine wcExit ?_
      refine wcOf ?_
      refine wcSeq ?_
      refine wcRegion ?_
      refine wlVal (opMove rfl) rfl ?_
      refine wlVal (opMove rfl) rfl ?_
      refine wlVal (opSliceFrom slo33 rfl rfl (by omega)) rfl ?_
      refine wlClearTail (α := Stand) (bl := []) (r := []) (l := i) (z := (Stand.mk 0 Dig.zero 0)) (zc := ((.int .i64 0) :: (Dig.zero.cells ++ ((.int .i64 0) :: [])))) us33 rfl (fun _ => rfl) zero43 hC hB hOcur (by omega) rfl rfl ?_; intro o5 w hC hB hO6
      refine wlThen ?_
      refine wcSeq ?_
      refine wcRegion ?_
      refine wlVal (opMove rfl) rfl ?_
      refine wlVal (opMove rfl) rfl ?_
      refine wlVal (opSliceTo slo33 rfl rfl (by have q := hO6.capLe; omega)) rfl ?_
      refine wlVal (opAssign rfl) rfl ?_
      refine wlThen ?_
      refine wcRet ?_
      exact fun ac_ ha => hQ _ _ _ (results1 ha rfl rfl) ha.df (endP (bl := []) (o := o5) (r := []) hC hB (by have e := df_end (z := List.replicate (cur.length - i) (Stand.mk 0 Dig.zero 0)) hlen2 hij hI (by have q := of_decide_eq_false h4; omega) (by have q := of_decide_eq_false h4; omega); rw [← e]; exact ⟨curA, curC, (by have hl : ((cur.take i ++ List.replicate (cur.length - i) (Stand.mk 0 Dig.zero 0)).take i).length = i := (by simp; omega); rw [hl]), (by have hl : ((cur.take i ++ List.replicate (cur.length - i) (Stand.mk 0 Dig.zero 0)).take i).length = i := (by simp; omega); rw [hl]; exact (Ow.take hO6 (by simp; omega)))⟩))
    · skip
      refine wcCondT rfl ?_
      refine wcSkip ?_
      refine wcOf ?_
      refine wcSeq ?_
      refine wcBlock ?_
      refine wcSeq ?_
      refine wcRegion ?_
      refine wlVal (opMove rfl) rfl ?_
      refine wlVal (opMove rfl) rfl ?_
      obtain ⟨x7, hx8⟩ : ∃ y_, cur[j]? = some y_ := ⟨_, List.getElem?_eq_getElem (of_decide_eq_true h4)⟩
      obtain ⟨g9, so11, cs10, rfl, rfl⟩ := hOcur.addr (of_decide_eq_true h4)
      refine wlVal (opIndexAddr rfl rfl slo33 (of_decide_eq_true h4)) rfl ?_
      obtain ⟨row12, hr13, hi14, hl15⟩ := Ow.elemAt (bl := []) (r := []) hOcur hB hx8; obtain rfl := hi14
      refine wlVal (opLoadRow (cs := x7.cells) rfl hr13 row43 (by simp [Word.cells, Stand.cells, Wd.cells, Mark.cells])) rfl ?_
      refine wlAlloc hC hB zero43 rfl ?_; intro b16 w hk hC hB
      replace hB : Bxs G w w0.heap.size ([(b16, 43, ((.int .i64 0) :: (Dig.zero.cells ++ ((.int .i64 0) :: []))))] ++ (Option.toList ((some (g9, 43, cs10))) ++ [])) ⟨((Option.toList os).map (·.1)), []⟩ := hB
      refine wlStore 0 (vs := x7.cells) (cs := ((.int .i64 0) :: (Dig.zero.cells ++ ((.int .i64 0) :: [])))) (cs' := x7.cells) hC hB rfl rfl rfl sz43 rfl (by simp [Word.cells, Stand.cells, Wd.cells, Mark.cells]) (by simp [Word.cells, Stand.cells, Wd.cells, Mark.cells, Value.oneCell']) (by simp [Word.cells, Stand.cells, Wd.cells, Mark.cells]) (by simp [Word.cells, Stand.cells, Wd.cells, Mark.cells]) rfl ?_; intro w hC hB
      replace hB : Bxs G w w0.heap.size ([(b16, 43, x7.cells)] ++ (Option.toList ((some (g9, 43, cs10))) ++ [])) ⟨((Option.toList os).map (·.1)), []⟩ := hB
      refine wlThen ?_
      refine wcSeq ?_
      refine wcRegion ?_
      refine wlVal (opMove rfl) rfl ?_
      refine wlVal (opLoadRow (cs := x7.cells) rfl (hB.range (i := 0) (m := 34) rfl (by simp [Word.cells, Stand.cells, Wd.cells, Mark.cells])) row43 (by simp [Word.cells, Stand.cells, Wd.cells, Mark.cells])) rfl ?_
      refine wlCallS hC hB rfl kf rfl rfl (hf _ _ x7 hC.gle hC.holds ) ?_; intro w hk hC hB
      refine wlVal (opNot rfl) rfl ?_
      refine wlThen ?_
      cases h17 : pf x7
      · skip
        refine wcCondT rfl ?_
        refine wcSeq ?_
        refine wcRegion ?_
        refine wlVal (opMove rfl) rfl ?_
        refine wlVal (opMove rfl) rfl ?_
        refine wlVal (opLoadRow (cs := x7.cells) rfl (hB.range (i := 0) (m := 34) rfl (by simp [Word.cells, Stand.cells, Wd.cells, Mark.cells])) row43 (by simp [Word.cells, Stand.cells, Wd.cells, Mark.cells])) rfl ?_
        obtain ⟨x18, hx19⟩ : ∃ y_, cur[i]? = some y_ := ⟨_, List.getElem?_eq_getElem (by have q := of_decide_eq_true h4; omega)⟩
        refine wlVal (opIndexAddr rfl rfl slo33 (by have q := of_decide_eq_true h4; omega)) rfl ?_
        refine wlStoreOw (α := Stand) (bl := [(b16, 43, x7.cells)]) (r := []) (vs := x7.cells) (off := 0) (y := x7) hC hB hOcur hx19 rfl (by show _ = so11 + _ * 34 + 0; omega) rfl sz43 rfl (by simp [Word.cells, Stand.cells, Wd.cells, Mark.cells]) (by simp [Word.cells, Stand.cells, Wd.cells, Mark.cells, Value.oneCell']) (Nat.le_refl _) (fun row h => by obtain rfl := h; exact whole_row (by simp) (by simp)) rfl ?_; intro cs20 w hC hB hO21
        refine wlThen ?_
        refine wcRegion ?_
        refine wlVal (opMove rfl) rfl ?_
        refine wlVal (opIncr rfl rfl (by have q := of_decide_eq_true h4; omega)) rfl ?_
        refine wlVal (opAssign rfl) rfl ?_
        refine wlNil ?_
        refine wcOf ?_
        refine wcRegion ?_
        refine wlVal (opMove rfl) rfl ?_
        refine wlVal (opIncr rfl rfl (by have q := of_decide_eq_true h4; omega)) rfl ?_
        refine wlVal (opAssign rfl) rfl ?_
        refine wlRound ?_
        exact (IH0 (j + 1, i + 1, (some ⟨g9, so11, none⟩), curC, (some (g9, 43, cs20)), (List.set cur i x7)) _ _ ⟨hC, hB.tail, (by simpa using hO21), (by simpa using hlen2), (by omega), (by have q := of_decide_eq_true h4; omega), (df_drop2 hij hJ), (df_keep hij hJ hI hx8 h17)⟩ (by have q := of_decide_eq_true h4; simp; omega)).sub (fun _ ha => ((((ha.start.cons ha (t := 0) (congrArg (fun n_ => some (Value.slice (some ⟨g9, so11, none⟩) n_ curC)) (by simp))).cons ha (t := 1) rfl).cons ha (t := 5) rfl).cons ha (t := 6) rfl))
      · skip
        refine wcCondF rfl ?_
        refine wcSkip ?_
        refine wcOf ?_
        refine wcRegion ?_
        refine wlVal (opMove rfl) rfl ?_
        refine wlVal (opIncr rfl rfl (by have q := of_decide_eq_true h4; omega)) rfl ?_
        refine wlVal (opAssign rfl) rfl ?_
        refine wlRound ?_
        exact (IH0 (j + 1, i, (some ⟨g9, so11, none⟩), curC, (some (g9, 43, cs10)), cur) _ _ ⟨hC, hB.tail, hOcur, (by simpa using hlen2), (by omega), (by have q := of_decide_eq_true h4; omega), (df_drop hJ), (df_skip hij hJ hI hx8 h17)⟩ (by have q := of_decide_eq_true h4; simp; omega)).sub (fun _ ha => ((((ha.start.cons ha (t := 0) rfl).cons ha (t := 1) rfl).cons ha (t := 5) rfl).cons ha (t := 6) rfl))
  · skip
    refine wcCondT rfl ?_
    refine wcSeq ?_
    refine wcRegion ?_
    refine wlVal (opMove rfl) rfl ?_
    refine wlVal (opAssign rfl) rfl ?_
    refine wlThen ?_
    refine wcRet ?_
    exact fun ac_ ha => hQ _ _ _ (results1 ha rfl rfl) ha.df (endP (bl := []) (o := os) (r := []) hC hB (by rw [filter_none h3]; exact ⟨_, _, rfl, hs⟩))

theorem pMay_ret (G0 : Gh) (w0 : World) (hw : Holds G0 w0) (bs : Nat) (Os : List (Nat × Obj)) (s : SlS) (hOs : HasL G0 Os) (hs : SlO G0 bs Os s) (vl : Value) (l : List Stand) (hl : Sl G0 vl l) :
    RetS Tryd.prog 47 #[.pointer (some ⟨bs, 0, none⟩), vl] G0 w0 (.bool ((pMayG s.f none l))) := by
  have hC := Cx.refl hw
  have hB : Bxs G0 w0 w0.heap.size [] := Bxs.nil _ _ _
  obtain ⟨v1, l2, om3, D4, H5, e6, hn7, hM8, hH9⟩ := id hs
  obtain ⟨A14, cap15, rfl⟩ := hn7.form
  have hb10 : HasO G0 bs (.cells [(.int .i64 s.crew.faults), (.slice A14 s.crew.nodes.length cap15), (.int .i64 s.low), (.map (some l2))].toArray 70 (0, 0)) := hOs (bs, (.cells [(.int .i64 s.crew.faults), (.slice A14 s.crew.nodes.length cap15), (.int .i64 s.low), (.map (some l2))].toArray 70 (0, 0))) (by rw [e6]; simp)
  have hl11 : HasO G0 l2 om3 := hOs (l2, om3) (by rw [e6]; simp)
  have hL12 : HasL G0 H5 := fun x hx => hOs x (by rw [e6]; simp [hx])
  have hF13 := hb10.row
  obtain ⟨A16, cap17, rfl⟩ := hl.form
  refine callsOf Tryd.func47 rfl _ Tryd.ntmps47 rfl _ (argsCons (argsCons argsNil (t := 0) rfl) (t := 1) rfl) ?_; intro Q0 hQ
  refine wcSeq ?_
  refine wcRegion ?_
  refine wlVal (opAssign rfl) rfl ?_
  refine wlThen ?_
  refine wcSeq ?_
  refine wcSeq ?_
  refine wcRegion ?_
  refine wlVal (opMove rfl) rfl ?_
  refine wlVal (opLen rfl isl33) rfl ?_
  refine wlVal (opMove rfl) rfl ?_
  refine wlThen ?_
  refine wcBlock ?_
  refine WC.sub (wrInd (ι := Nat) (fun k => l.length - k) (fun k G w => Cx w0 G0 G w ∧ Bxs G w w0.heap.size [] ∧ Sl G (.slice A14 s.crew.nodes.length cap15) s.crew.nodes ∧ HasL G Os ∧ SlO G bs Os s ∧ MpO kI G om3 D4 ∧ SlH G D4 H5 s.f ∧ HasO G bs (.cells [(.int .i64 s.crew.faults), (.slice A14 s.crew.nodes.length cap15), (.int .i64 s.low), (.map (some l2))].toArray 70 (0, 0)) ∧ HasO G l2 om3 ∧ HasL G H5 ∧ Sl G (.slice A16 l.length cap17) l ∧ RowG G bs 0 [(.int .i64 s.crew.faults), (.slice A14 s.crew.nodes.length cap15), (.int .i64 s.low), (.map (some l2))] ∧ pMayG s.f (prevQ l k) (l.drop k) = pMayG s.f none l) (fun k => (((((Env.nil.put 0 (.pointer (some ⟨bs, 0, none⟩))).put 1 (.slice A16 l.length cap17)).put 7 (.slice A16 l.length cap17)).put 8 (.int .i64 (((l.length : Nat) : Int)))).put 9 (.int .i64 (((k : Nat) : Int))))) ?_ (0) _ _ ⟨hC, hB, hn7, hOs, hs, hM8, hH9, hb10, hl11, hL12, hl, hF13, rfl⟩) (fun _ ha => (((((ha.start.cons ha (t := 0) rfl).cons ha (t := 1) rfl).cons ha (t := 7) rfl).cons ha (t := 8) rfl).cons ha (t := 9) rfl))
  rintro k G w N0 IH0 ⟨hC, hB, hn7, hOs, hs, hM8, hH9, hb10, hl11, hL12, hl, hF13, hI⟩
  show WC _ _ _ _ (((((Env.nil.put 0 (.pointer (some ⟨bs, 0, none⟩))).put 1 (.slice A16 l.length cap17)).put 7 (.slice A16 l.length cap17)).put 8 (.int .i64 (((l.length : Nat) : Int)))).put 9 (.int .i64 (((k : Nat) : Int)))) w
  refine wcSeq ?_
  refine wcRegion ?_
  refine wlVal (opLssN rfl rfl) rfl ?_
  refine wlThen ?_
  refine wcSeq ?_
  cases h18 : decide (k < l.length)
  · skip
    refine wcCondF rfl ?_
    refine wcExit ?_
    refine wcOf ?_
    refine wcSeq ?_
    refine wcRegion ?_
    refine wlVal (opAssign rfl) rfl ?_
    refine wlThen ?_
    refine wcRet ?_
    exact fun ac_ ha => hQ _ _ _ (results1 ha rfl rfl) ha.df (endS hC hw (by rw [← hI, List.drop_eq_nil_of_le (Nat.le_of_not_lt (of_decide_eq_false h18))]; simp only [pMayG, h18, lePrev, gePrev, Option.isSome_some, Option.isSome_none, Option.isNone_some, Option.isNone_none, cond_true, cond_false, Bool.not_true, Bool.not_false, Bool.and_true, Bool.and_false, Bool.true_and, Bool.false_and, Bool.or_true, Bool.true_or, Bool.or_false, Bool.false_or]))
  · skip
    refine wcCondT rfl ?_
    refine wcSkip ?_
    refine wcOf ?_
    refine wcSeq ?_
    refine wcBlock ?_
    refine wcSeq ?_
    refine wcRegion ?_
    refine wlVal (opMove rfl) rfl ?_
    obtain ⟨x19, hx20⟩ : ∃ y_, l[k]? = some y_ := ⟨_, List.getElem?_eq_getElem (of_decide_eq_true h18)⟩
    obtain ⟨b21, o22, row23, hA26, hr24, hi25⟩ := hl.elem hx20; subst hA26
    obtain rfl := hi25
    refine wlVal (opIndexAddr rfl rfl slo33 (of_decide_eq_true h18)) rfl ?_
    refine wlVal (opLoadRow (cs := x19.cells) rfl (RowG.range hC.holds hr24) row43 (by simp [Word.cells, Stand.cells, Wd.cells, Mark.cells])) rfl ?_
    refine wlAlloc hC hB zero43 rfl ?_; intro b27 w hk hC hB
    refine wlVal (opAssign rfl) rfl ?_
    refine wlStore 0 (vs := x19.cells) (cs := ((.int .i64 0) :: (Dig.zero.cells ++ ((.int .i64 0) :: [])))) (cs' := x19.cells) hC hB rfl rfl rfl sz43 rfl (by simp [Word.cells, Stand.cells, Wd.cells, Mark.cells]) (by simp [Word.cells, Stand.cells, Wd.cells, Mark.cells, Value.oneCell']) (by simp [Word.cells, Stand.cells, Wd.cells, Mark.cells]) (by simp [Word.cells, Stand.cells, Wd.cells, Mark.cells]) rfl ?_; intro w hC hB
    refine wlThen ?_
    refine wcSeq ?_
    refine wcDrawS 29 [0, 1, 3, 7, 0, 16, 63, 127, 255, 511, 1023, 2047, 4095, 8191, 16383, 32767, 65535, 131071, 262143, 524287, 262143, 262143, 2359295, 7602175, 15990783, 32767999, 67108863, 134217727, 268435455] fmix (by kernel_rfl) (by kernel_rfl) rfl hC hB ?_; intro w hC hB
    refine wdRo 0 rfl (by kernel_rfl) rfl (fun _ => (opMove rfl)) rfl ?_
    refine wdRo 1 rfl (by kernel_rfl) rfl (fun _ => (opNilCheck rfl)) rfl ?_
    refine wdRo 2 rfl (by kernel_rfl) rfl (fun _ => (opFieldAddr rfl fo70_2)) rfl ?_
    refine wdTake 3 rfl (by kernel_rfl) rfl (opLoadOne (v := (.map (some l2))) rfl (RowG.cell hC.holds hF13 (j := 3) rfl) one68) rfl ?_
    refine wdRo 4 rfl (by kernel_rfl) rfl (fun _ => (opFieldAddr rfl fo43_0)) rfl ?_
    refine wdTake 5 rfl (by kernel_rfl) rfl (opLoadOne (v := (.int .i64 x19.seq)) rfl (hB.cell (i := 0) rfl (by simp [Word.cells, Stand.cells, Wd.cells, Mark.cells])) one3) rfl ?_
    obtain ⟨v30, hv31, hr32⟩ := hM8.lookup (keyL_int ui3) mk68 zv59 (isPt' _ (Pt.mk none)) x19.seq
    rcases hf28 : s.f x19.seq with _ | t29
    · skip
      rw [hH9.at_none hf28] at hv31
      replace hv31 : v30 = .pointer none := hv31
      subst hv31
      refine wdTake 6 rfl (by kernel_rfl) rfl (opLookupH rfl rfl (hr32 _ _ (hl11.at_ hC.holds))) rfl ?_
      refine wdRo 7 rfl (by kernel_rfl) rfl (fun _ => (OpVal.cast (v' := .bool true) (opPtrNil ip59 rfl rfl) rfl)) rfl ?_
      refine wdRo 8 rfl (by kernel_rfl) rfl (fun _ => (opMove rfl)) rfl ?_
      refine wdOff 9 rfl (by kernel_rfl) rfl rfl rfl rfl rfl ?_
      refine wdOff 10 rfl (by kernel_rfl) rfl rfl rfl rfl rfl ?_
      refine wdOff 11 rfl (by kernel_rfl) rfl rfl rfl rfl rfl ?_
      refine wdOff 12 rfl (by kernel_rfl) rfl rfl rfl rfl rfl ?_
      refine wdRo 13 rfl (by kernel_rfl) rfl (fun _ => (opPickT rfl rfl)) rfl ?_
      refine wdRo 14 rfl (by kernel_rfl) rfl (fun _ => (opMove rfl)) rfl ?_
      refine wdOff 15 rfl (by kernel_rfl) rfl rfl rfl rfl rfl ?_
      refine wdOff 16 rfl (by kernel_rfl) rfl rfl rfl rfl rfl ?_
      refine wdOff 17 rfl (by kernel_rfl) rfl rfl rfl rfl rfl ?_
      refine wdOffU 18 rfl (by kernel_rfl) rfl rfl rfl rfl ?_
      refine wdOffU 19 rfl (by kernel_rfl) rfl rfl rfl rfl ?_
      refine wdOffU 20 rfl (by kernel_rfl) rfl rfl rfl rfl ?_
      refine wdOffU 21 rfl (by kernel_rfl) rfl rfl rfl rfl ?_
      refine wdOffU 22 rfl (by kernel_rfl) rfl rfl rfl rfl ?_
      refine wdOffU 23 rfl (by kernel_rfl) rfl rfl rfl rfl ?_
      refine wdOffU 24 rfl (by kernel_rfl) rfl rfl rfl rfl ?_
      refine wdOffU 25 rfl (by kernel_rfl) rfl rfl rfl rfl ?_
      refine wdOffU 26 rfl (by kernel_rfl) rfl rfl rfl rfl ?_
      refine wdOff 27 rfl (by kernel_rfl) rfl rfl rfl rfl rfl ?_
      refine wdRo 28 rfl (by kernel_rfl) rfl (fun _ => (opPickT rfl rfl)) rfl ?_
      refine wdDone (by kernel_rfl) ?_
      refine wcOf ?_
      refine wcCondT rfl ?_
      refine wcSeq ?_
      refine wcRegion ?_
      refine wlVal (opAssign rfl) rfl ?_
      refine wlThen ?_
      refine wcRet ?_
      exact fun ac_ ha => hQ _ _ _ (results1 ha rfl rfl) ha.df (endS hC hw (by rw [← hI, drop_get hx20]; simp only [pMayG, h18, hf28, lePrev, gePrev, Option.isSome_some, Option.isSome_none, Option.isNone_some, Option.isNone_none, cond_true, cond_false, Bool.not_true, Bool.not_false, Bool.and_true, Bool.and_false, Bool.true_and, Bool.false_and, Bool.or_true, Bool.true_or, Bool.or_false, Bool.false_or]))
    · skip
      obtain ⟨r33, hD34, hr35, hx36⟩ := hH9.res_some hL12 hf28
      rw [hD34] at hv31
      replace hv31 : v30 = .pointer (some ⟨r33.p, 0, none⟩) := hv31
      subst hv31
      have hF37 := hx36.row hr35
      have hM38 := hx36.pre
      have hM39 := hx36.com
      have hl40 := hr35.m1
      have hl41 := hr35.m2
      have hq42 := hx36.qSl hr35
      obtain ⟨A43, cap44, e45⟩ := hq42.form
      rw [e45] at hq42 hF37
      refine wdTake 6 rfl (by kernel_rfl) rfl (opLookupH rfl rfl (hr32 _ _ (hl11.at_ hC.holds))) rfl ?_
      refine wdRo 7 rfl (by kernel_rfl) rfl (fun _ => (OpVal.cast (v' := .bool false) (opPtrNil ip59 rfl rfl) rfl)) rfl ?_
      refine wdRo 8 rfl (by kernel_rfl) rfl (fun _ => (opMove rfl)) rfl ?_
      refine wdRoG 9 rfl (by kernel_rfl) rfl rfl rfl (fun _ => (opFieldAddr rfl fo43_2)) rfl ?_
      refine wdTakeG 10 rfl (by kernel_rfl) rfl rfl rfl (opLoadOne (v := (.int .i64 x19.view)) rfl (hB.cell (i := 0) rfl (by simp [Word.cells, Stand.cells, Wd.cells, Mark.cells])) one3) rfl ?_
      refine wdAll [11] (by kernel_rfl) rfl ⟨wd1 rfl ?_, trivial⟩
      intro hGd
      refine wlOn rfl rfl ?_
      refine wlCallS hC hB rfl co33 rfl rfl (viewMay_ret _ _ hC.holds x19.view) ?_; intro w hk hC hB
      refine wdNext hGd rfl (kpDrop rfl (kpDrop rfl (kpDrop rfl (kpDrop rfl kpNil)))) (Tk.nil _) ?_
      refine wdRoG 12 rfl (by kernel_rfl) rfl rfl rfl (fun _ => (opNot rfl)) rfl ?_
      refine wdRo 13 rfl (by kernel_rfl) rfl (fun _ => (opPickF rfl rfl)) rfl ?_
      refine wdRo 14 rfl (by kernel_rfl) rfl (fun _ => (opMove rfl)) rfl ?_
      cases h46 : (viewB x19.view)
      · skip
        refine wdOff 15 rfl (by kernel_rfl) rfl rfl rfl rfl rfl ?_
        refine wdOff 16 rfl (by kernel_rfl) rfl rfl rfl rfl rfl ?_
        refine wdOff 17 rfl (by kernel_rfl) rfl rfl rfl rfl rfl ?_
        refine wdOffU 18 rfl (by kernel_rfl) rfl rfl rfl rfl ?_
        refine wdOffU 19 rfl (by kernel_rfl) rfl rfl rfl rfl ?_
        refine wdOffU 20 rfl (by kernel_rfl) rfl rfl rfl rfl ?_
        refine wdOffU 21 rfl (by kernel_rfl) rfl rfl rfl rfl ?_
        refine wdOffU 22 rfl (by kernel_rfl) rfl rfl rfl rfl ?_
        refine wdOffU 23 rfl (by kernel_rfl) rfl rfl rfl rfl ?_
        refine wdOffU 24 rfl (by kernel_rfl) rfl rfl rfl rfl ?_
        refine wdOffU 25 rfl (by kernel_rfl) rfl rfl rfl rfl ?_
        refine wdOffU 26 rfl (by kernel_rfl) rfl rfl rfl rfl ?_
        refine wdOff 27 rfl (by kernel_rfl) rfl rfl rfl rfl rfl ?_
        refine wdRo 28 rfl (by kernel_rfl) rfl (fun _ => (opPickT rfl rfl)) rfl ?_
        refine wdDone (by kernel_rfl) ?_
        refine wcOf ?_
        refine wcCondT rfl ?_
        refine wcSeq ?_
        refine wcRegion ?_
        refine wlVal (opAssign rfl) rfl ?_
        refine wlThen ?_
        refine wcRet ?_
        exact fun ac_ ha => hQ _ _ _ (results1 ha rfl rfl) ha.df (endS hC hw (by rw [← hI, drop_get hx20]; simp only [pMayG, h18, hf28, h46, lePrev, gePrev, Option.isSome_some, Option.isSome_none, Option.isNone_some, Option.isNone_none, cond_true, cond_false, Bool.not_true, Bool.not_false, Bool.and_true, Bool.and_false, Bool.true_and, Bool.false_and, Bool.or_true, Bool.true_or, Bool.or_false, Bool.false_or]))
      · skip
        refine wdRoG 15 rfl (by kernel_rfl) rfl rfl rfl (fun _ => (opMove rfl)) rfl ?_
        refine wdRoG 16 rfl (by kernel_rfl) rfl rfl rfl (fun _ => (opGtr rfl rfl)) rfl ?_
        refine wdRoG 17 rfl (by kernel_rfl) rfl rfl rfl (fun _ => (opMove rfl)) rfl ?_
        cases h47 : decide (0 < ((k : Nat) : Int))
        · skip
          refine wdOff 18 rfl (by kernel_rfl) rfl rfl rfl rfl rfl ?_
          refine wdOff 19 rfl (by kernel_rfl) rfl rfl rfl rfl rfl ?_
          refine wdOff 20 rfl (by kernel_rfl) rfl rfl rfl rfl rfl ?_
          refine wdOff 21 rfl (by kernel_rfl) rfl rfl rfl rfl rfl ?_
          refine wdOff 22 rfl (by kernel_rfl) rfl rfl rfl rfl rfl ?_
          refine wdOff 23 rfl (by kernel_rfl) rfl rfl rfl rfl rfl ?_
          refine wdOff 24 rfl (by kernel_rfl) rfl rfl rfl rfl rfl ?_
          refine wdOff 25 rfl (by kernel_rfl) rfl rfl rfl rfl rfl ?_
          refine wdOff 26 rfl (by kernel_rfl) rfl rfl rfl rfl rfl ?_
          refine wdRoG 27 rfl (by kernel_rfl) rfl rfl rfl (fun _ => (opPickF rfl rfl)) rfl ?_
          refine wdRo 28 rfl (by kernel_rfl) rfl (fun _ => (opPickF rfl rfl)) rfl ?_
          refine wdDone (by kernel_rfl) ?_
          refine wcOf ?_
          refine wcCondF rfl ?_
          refine wcSkip ?_
          refine wcOf ?_
          refine wcRegion ?_
          refine wlVal (opIncr rfl rfl (incr_ok (of_decide_eq_true h18) hl.le)) rfl ?_
          refine wlVal (opMove rfl) rfl ?_
          refine wlRound ?_
          exact (IH0 (k + 1) _ _ ⟨hC, hB.tail, hn7, hOs, hs, hM8, hH9, hb10, hl11, hL12, hl, hF13, (by rw [← hI, drop_get hx20]; simp only [pMayG, h18, hf28, h46, h47, prevQ_zero h47, prevQ_succ hx20, lePrev, gePrev, Option.isSome_some, Option.isSome_none, Option.isNone_some, Option.isNone_none, cond_true, cond_false, Bool.not_true, Bool.not_false, Bool.and_true, Bool.and_false, Bool.true_and, Bool.false_and, Bool.or_true, Bool.true_or, Bool.or_false, Bool.false_or])⟩ (by have := of_decide_eq_true h18; simp; omega)).sub (fun _ ha => (((((ha.start.cons ha (t := 0) rfl).cons ha (t := 1) rfl).cons ha (t := 7) rfl).cons ha (t := 8) rfl).cons ha (t := 9) rfl))
        · skip
          refine wdRoG 18 rfl (by kernel_rfl) rfl rfl rfl (fun _ => (opFieldAddr rfl fo43_0)) rfl ?_
          refine wdTakeG 19 rfl (by kernel_rfl) rfl rfl rfl (opLoadOne (v := (.int .i64 x19.seq)) rfl (hB.cell (i := 0) rfl (by simp [Word.cells, Stand.cells, Wd.cells, Mark.cells])) one3) rfl ?_
          refine wdRoG 20 rfl (by kernel_rfl) rfl rfl rfl (fun _ => (opMove rfl)) rfl ?_
          refine wdRoG 21 rfl (by kernel_rfl) rfl rfl rfl (fun _ => (opMove rfl)) rfl ?_
          refine wdRoG 22 rfl (by kernel_rfl) rfl rfl rfl (fun _ => (opDecr rfl rfl (Int.ofNat_lt.1 (of_decide_eq_true h47)) (incr_ok (of_decide_eq_true h18) hl.le))) rfl ?_
          obtain ⟨x48, hx49⟩ : ∃ y_, l[(k - 1)]? = some y_ := ⟨_, List.getElem?_eq_getElem (by have q := of_decide_eq_true h18; omega)⟩
          obtain ⟨row52, hr53, hi54⟩ := Sl.elem' hl hx49
          obtain rfl := hi54
          refine wdRoG 23 rfl (by kernel_rfl) rfl rfl rfl (fun _ => (opIndexAddr rfl rfl slo33 (by have q := of_decide_eq_true h18; omega))) rfl ?_
          refine wdRoG 24 rfl (by kernel_rfl) rfl rfl rfl (fun _ => (opFieldAddr rfl fo43_0)) rfl ?_
          refine wdTakeG 25 rfl (by kernel_rfl) rfl rfl rfl (opLoadOne (v := (.int .i64 x48.seq)) rfl (RowG.cell0 hC.holds hr53 (by simp [Word.cells, Stand.cells, Wd.cells, Mark.cells])) one3) rfl ?_
          refine wdRoG 26 rfl (by kernel_rfl) rfl rfl rfl (fun _ => (opLeq rfl rfl)) rfl ?_
          refine wdRoG 27 rfl (by kernel_rfl) rfl rfl rfl (fun _ => (opPickT rfl rfl)) rfl ?_
          refine wdRo 28 rfl (by kernel_rfl) rfl (fun _ => (opPickF rfl rfl)) rfl ?_
          refine wdDone (by kernel_rfl) ?_
          refine wcOf ?_
          cases h56 : decide (x19.seq ≤ x48.seq)
          · skip
            refine wcCondF rfl ?_
            refine wcSkip ?_
            refine wcOf ?_
            refine wcRegion ?_
            refine wlVal (opIncr rfl rfl (incr_ok (of_decide_eq_true h18) hl.le)) rfl ?_
            refine wlVal (opMove rfl) rfl ?_
            refine wlRound ?_
            exact (IH0 (k + 1) _ _ ⟨hC, hB.tail, hn7, hOs, hs, hM8, hH9, hb10, hl11, hL12, hl, hF13, (by rw [← hI, drop_get hx20]; simp only [pMayG, h18, hf28, h46, h47, h56, prevQ_of h47 hx49, prevQ_succ hx20, lePrev, gePrev, Option.isSome_some, Option.isSome_none, Option.isNone_some, Option.isNone_none, cond_true, cond_false, Bool.not_true, Bool.not_false, Bool.and_true, Bool.and_false, Bool.true_and, Bool.false_and, Bool.or_true, Bool.true_or, Bool.or_false, Bool.false_or])⟩ (by have := of_decide_eq_true h18; have := of_decide_eq_true h47; simp; omega)).sub (fun _ ha => (((((ha.start.cons ha (t := 0) rfl).cons ha (t := 1) rfl).cons ha (t := 7) rfl).cons ha (t := 8) rfl).cons ha (t := 9) rfl))
          · skip
            refine wcCondT rfl ?_
            refine wcSeq ?_
            refine wcRegion ?_
            refine wlVal (opAssign rfl) rfl ?_
            refine wlThen ?_
            refine wcRet ?_
            exact fun ac_ ha => hQ _ _ _ (results1 ha rfl rfl) ha.df (endS hC hw (by rw [← hI, drop_get hx20]; simp only [pMayG, h18, hf28, h46, h47, h56, prevQ_of h47 hx49, lePrev, gePrev, Option.isSome_some, Option.isSome_none, Option.isNone_some, Option.isNone_none, cond_true, cond_false, Bool.not_true, Bool.not_false, Bool.and_true, Bool.and_false, Bool.true_and, Bool.false_and, Bool.or_true, Bool.true_or, Bool.or_false, Bool.false_or]))

theorem qMay_ret (G0 : Gh) (w0 : World) (hw : Holds G0 w0) (bs : Nat) (Os : List (Nat × Obj)) (s : SlS) (hOs : HasL G0 Os) (hs : SlO G0 bs Os s) (vl : Value) (l : List Stand) (hl : Sl G0 vl l) :
    RetS Tryd.prog 48 #[.pointer (some ⟨bs, 0, none⟩), vl] G0 w0 (.bool ((qMayG s.f none [] [] l))) := by
  have hC := Cx.refl hw
  have hB : Bxs G0 w0 w0.heap.size [] := Bxs.nil _ _ _
  obtain ⟨v1, l2, om3, D4, H5, e6, hn7, hM8, hH9⟩ := id hs
  obtain ⟨A14, cap15, rfl⟩ := hn7.form
  have hb10 : HasO G0 bs (.cells [(.int .i64 s.crew.faults), (.slice A14 s.crew.nodes.length cap15), (.int .i64 s.low), (.map (some l2))].toArray 70 (0, 0)) := hOs (bs, (.cells [(.int .i64 s.crew.faults), (.slice A14 s.crew.nodes.length cap15), (.int .i64 s.low), (.map (some l2))].toArray 70 (0, 0))) (by rw [e6]; simp)
  have hl11 : HasO G0 l2 om3 := hOs (l2, om3) (by rw [e6]; simp)
  have hL12 : HasL G0 H5 := fun x hx => hOs x (by rw [e6]; simp [hx])
  have hF13 := hb10.row
  obtain ⟨A16, cap17, rfl⟩ := hl.form
  refine callsOf Tryd.func48 rfl _ Tryd.ntmps48 rfl _ (argsCons (argsCons argsNil (t := 0) rfl) (t := 1) rfl) ?_; intro Q0 hQ
  refine wcSeq ?_
  refine wcRegion ?_
  refine wlVal (opAssign rfl) rfl ?_
  refine wlThen ?_
  refine wcSeq ?_
  refine wcRegion ?_
  refine wlMakeMapH hC hB rfl ?_; intro b18 w hC hB
  have hM19 : MpO kI G0 (.map #[] 0) ([] : List (Int × Int)) := MpO.nil_ _ _
  replace hC : Cx w0 G0 G0 w ⟨[], [(b18, .map #[] 0)]⟩ := hC
  replace hB : Bxs G0 w w0.heap.size [] ⟨[], [(b18, .map #[] 0)]⟩ := hB
  refine wlMakeMapH hC hB rfl ?_; intro b20 w hC hB
  have hM21 : MpO kM G0 (.map #[] 0) ([] : List (Mark × Int)) := MpO.nil_ _ _
  replace hC : Cx w0 G0 G0 w ⟨[], [(b20, .map #[] 0), (b18, .map #[] 0)]⟩ := hC
  replace hB : Bxs G0 w w0.heap.size [] ⟨[], [(b20, .map #[] 0), (b18, .map #[] 0)]⟩ := hB
  refine wlVal (opAssign rfl) rfl ?_
  refine wlVal (opAssign rfl) rfl ?_
  refine wlThen ?_
  refine wcSeq ?_
  refine wcSeq ?_
  refine wcRegion ?_
  refine wlVal (opMove rfl) rfl ?_
  refine wlVal (opLen rfl isl33) rfl ?_
  refine wlVal (opMove rfl) rfl ?_
  refine wlThen ?_
  refine wcBlock ?_
  refine WC.sub (wrInd (ι := Nat × Obj × (List (Int × Int)) × Obj × (List (Mark × Int))) (fun i => match i with | (k, oa, Da, ob_, Db) => l.length - k) (fun i G w => match i with | (k, oa, Da, ob_, Db) => Cx w0 G0 G w ⟨[], [(b20, ob_), (b18, oa)]⟩ ∧ Bxs G w w0.heap.size [] ⟨[], [(b20, ob_), (b18, oa)]⟩ ∧ Sl G (.slice A14 s.crew.nodes.length cap15) s.crew.nodes ∧ HasL G Os ∧ SlO G bs Os s ∧ MpO kI G om3 D4 ∧ SlH G D4 H5 s.f ∧ HasO G bs (.cells [(.int .i64 s.crew.faults), (.slice A14 s.crew.nodes.length cap15), (.int .i64 s.low), (.map (some l2))].toArray 70 (0, 0)) ∧ HasO G l2 om3 ∧ HasL G H5 ∧ Sl G (.slice A16 l.length cap17) l ∧ RowG G bs 0 [(.int .i64 s.crew.faults), (.slice A14 s.crew.nodes.length cap15), (.int .i64 s.low), (.map (some l2))] ∧ MpO kI G oa Da ∧ MpO kM G ob_ Db ∧ qMayG s.f (prevQ l k) Da Db (l.drop k) = qMayG s.f none [] [] l) (fun i => match i with | (k, oa, Da, ob_, Db) => (((((((Env.nil.put 0 (.pointer (some ⟨bs, 0, none⟩))).put 1 (.slice A16 l.length cap17)).put 5 (.map (some b18))).put 6 (.map (some b20))).put 12 (.slice A16 l.length cap17)).put 13 (.int .i64 (((l.length : Nat) : Int)))).put 14 (.int .i64 (((k : Nat) : Int))))) ?_ (0, (.map #[] 0), [], (.map #[] 0), []) _ _ ⟨hC, hB, hn7, hOs, hs, hM8, hH9, hb10, hl11, hL12, hl, hF13, hM19, hM21, rfl⟩) (fun _ ha => (((((((ha.start.cons ha (t := 0) rfl).cons ha (t := 1) rfl).cons ha (t := 5) rfl).cons ha (t := 6) rfl).cons ha (t := 12) rfl).cons ha (t := 13) rfl).cons ha (t := 14) rfl))
  rintro ⟨k, oa, Da, ob_, Db⟩ G w N0 IH0 ⟨hC, hB, hn7, hOs, hs, hM8, hH9, hb10, hl11, hL12, hl, hF13, hMoa, hMob_, hI⟩
  show WC _ _ _ _ (((((((Env.nil.put 0 (.pointer (some ⟨bs, 0, none⟩))).put 1 (.slice A16 l.length cap17)).put 5 (.map (some b18))).put 6 (.map (some b20))).put 12 (.slice A16 l.length cap17)).put 13 (.int .i64 (((l.length : Nat) : Int)))).put 14 (.int .i64 (((k : Nat) : Int)))) w
  refine wcSeq ?_
  refine wcRegion ?_
  refine wlVal (opLssN rfl rfl) rfl ?_
  refine wlThen ?_
  refine wcSeq ?_
  cases h22 : decide (k < l.length)
  · skip
    refine wcCondF rfl ?_
    refine wcExit ?_
    refine wcOf ?_
    refine wcSeq ?_
    refine wcRegion ?_
    refine wlVal (opAssign rfl) rfl ?_
    refine wlThen ?_
    refine wcRet ?_
    exact fun ac_ ha => hQ _ _ _ (results1 ha rfl rfl) ha.df (endS hC hw (by rw [← hI, List.drop_eq_nil_of_le (Nat.le_of_not_lt (of_decide_eq_false h22))]; simp only [qMayG, h22, lePrev, gePrev, Option.isSome_some, Option.isSome_none, Option.isNone_some, Option.isNone_none, cond_true, cond_false, Bool.not_true, Bool.not_false, Bool.and_true, Bool.and_false, Bool.true_and, Bool.false_and, Bool.or_true, Bool.true_or, Bool.or_false, Bool.false_or]))
  · skip
    refine wcCondT rfl ?_
    refine wcSkip ?_
    refine wcOf ?_
    refine wcSeq ?_
    refine wcBlock ?_
    refine wcSeq ?_
    refine wcRegion ?_
    refine wlVal (opMove rfl) rfl ?_
    obtain ⟨x23, hx24⟩ : ∃ y_, l[k]? = some y_ := ⟨_, List.getElem?_eq_getElem (of_decide_eq_true h22)⟩
    obtain ⟨b25, o26, row27, hA30, hr28, hi29⟩ := hl.elem hx24; subst hA30
    obtain rfl := hi29
    refine wlVal (opIndexAddr rfl rfl slo33 (of_decide_eq_true h22)) rfl ?_
    refine wlVal (opLoadRow (cs := x23.cells) rfl (RowG.range hC.holds hr28) row43 (by simp [Word.cells, Stand.cells, Wd.cells, Mark.cells])) rfl ?_
    refine wlAlloc hC hB zero43 rfl ?_; intro b31 w hk hC hB
    refine wlVal (opAssign rfl) rfl ?_
    refine wlStore 0 (vs := x23.cells) (cs := ((.int .i64 0) :: (Dig.zero.cells ++ ((.int .i64 0) :: [])))) (cs' := x23.cells) hC hB rfl rfl rfl sz43 rfl (by simp [Word.cells, Stand.cells, Wd.cells, Mark.cells]) (by simp [Word.cells, Stand.cells, Wd.cells, Mark.cells, Value.oneCell']) (by simp [Word.cells, Stand.cells, Wd.cells, Mark.cells]) (by simp [Word.cells, Stand.cells, Wd.cells, Mark.cells]) rfl ?_; intro w hC hB
    refine wlThen ?_
    refine wcSeq ?_
    refine wcRegion ?_
    refine wlVal (opFieldAddr rfl fo43_0) rfl ?_
    refine wlVal (opLoadOne (v := (.int .i64 x23.seq)) rfl (hB.cell (i := 0) rfl (by simp [Word.cells, Stand.cells, Wd.cells, Mark.cells])) one3) rfl ?_
    refine wlVal (opFieldAddr rfl fo43_1) rfl ?_
    refine wlVal (opLoadRow (cs := x23.dig.cells) rfl (hB.range (i := 0) (m := 32) rfl (by simp [Word.cells, Stand.cells, Wd.cells, Mark.cells])) row38 (by simp [Word.cells, Stand.cells, Wd.cells, Mark.cells])) rfl ?_
    refine wlVal (opBuild (ps := [(0, .tmp 20), (1, .tmp 22)]) (cs := ((.int .i64 x23.seq) :: (x23.dig.cells ++ []))) so98 zero98 rfl rfl (by first | (simp [buildCells, Value.cells]; done) | simp [buildCells, Value.cells, Word.cells, Stand.cells, Wd.cells, Mark.cells])) rfl ?_
    refine wlAlloc hC hB zero98 rfl ?_; intro b32 w hk hC hB
    refine wlStore 0 (vs := ((.int .i64 x23.seq) :: (x23.dig.cells ++ []))) (cs := ((.int .i64 0) :: (Dig.zero.cells ++ []))) (cs' := ((.int .i64 x23.seq) :: (x23.dig.cells ++ []))) hC hB rfl rfl rfl sz98 rfl (by simp [Word.cells, Stand.cells, Wd.cells, Mark.cells]) (by simp [Word.cells, Stand.cells, Wd.cells, Mark.cells, Value.oneCell']) (by simp [Word.cells, Stand.cells, Wd.cells, Mark.cells]) (by simp [Word.cells, Stand.cells, Wd.cells, Mark.cells]) rfl ?_; intro w hC hB
    refine wlThen ?_
    refine wcSeq ?_
    refine wcRegion ?_
    refine wlVal (opMove rfl) rfl ?_
    refine wlVal (opFieldAddr rfl fo43_0) rfl ?_
    refine wlVal (opLoadOne (v := (.int .i64 x23.seq)) rfl (hB.cell (i := 1) rfl (by simp [Word.cells, Stand.cells, Wd.cells, Mark.cells])) one3) rfl ?_
    obtain ⟨v33, hv34, hr35⟩ := hMoa.lookup (keyL_int ui3) mk95 zv3 rfl x23.seq
    obtain rfl := Gx.isI hv34
    refine wlVal (opLookupH rfl rfl (hr35 _ _ (hC.heldAt 1 rfl))) rfl ?_
    refine wlVal (opAdd rfl rfl) rfl ?_
    obtain ⟨q36, hM37, hr38, hit39⟩ := hMoa.put (keyL_int ui3) mk95 rfl x23.seq
    refine wlMapPutH hC hB (i := 1) rfl rfl rfl rfl (hr38 _ _ (hC.heldAt 1 rfl)) rfl ?_; intro w hC hB
    replace hC : Cx w0 G0 G w ⟨[], [(b20, ob_), (b18, q36)]⟩ := hC
    replace hB : Bxs G w w0.heap.size [(b32, 98, ((.int .i64 x23.seq) :: (x23.dig.cells ++ []))), (b31, 43, x23.cells)] ⟨[], [(b20, ob_), (b18, q36)]⟩ := hB
    refine wlThen ?_
    refine wcSeq ?_
    refine wcDrawS 7 [0, 0, 3, 7, 3, 19, 63] fmix (by kernel_rfl) (by kernel_rfl) rfl hC hB ?_; intro w hC hB
    refine wdRo 0 rfl (by kernel_rfl) rfl (fun _ => (opMove rfl)) rfl ?_
    refine wdTake 1 rfl (by kernel_rfl) rfl (opLoadRow (cs := ((.int .i64 x23.seq) :: (x23.dig.cells ++ []))) rfl (hB.range (i := 0) (m := 33) rfl (by simp [Word.cells, Stand.cells, Wd.cells, Mark.cells])) row98 (by simp [Word.cells, Stand.cells, Wd.cells, Mark.cells])) rfl ?_
    obtain ⟨v40, hv41, hr42⟩ := hMob_.lookup keyL98 mk96 zv3 rfl ((Mark.mk x23.seq x23.dig))
    obtain rfl := Gx.isI hv41
    refine wdTake 2 rfl (by kernel_rfl) rfl (opLookupH rfl rfl (hr42 _ _ (hC.heldAt 0 rfl))) rfl ?_
    refine wdRo 3 rfl (by kernel_rfl) rfl (fun _ => (opAdd rfl rfl)) rfl ?_
    refine wdAll [4] (by kernel_rfl) rfl ⟨wd1 rfl ?_, trivial⟩
    intro hGd
    obtain ⟨q43, v44, sg45, hM46, hv47, hr48, hst49⟩ := hMob_.entry keyL98 mk96 zv3 rfl ((Mark.mk x23.seq x23.dig)); obtain rfl := Gx.isI hv47
    obtain ⟨v50, hv51, hr52⟩ := hM46.lookup keyL98 mk96 zv3 rfl ((Mark.mk x23.seq x23.dig)); rw [mget_mput, if_pos rfl, Option.getD_some] at hv51; obtain rfl := Gx.isI hv51
    refine wlEntryH hC hB (i := 0) rfl rfl rfl (hr48 _ _ (hC.heldAt 0 rfl)) rfl ?_; intro w hC hB
    replace hC : Cx w0 G0 G w ⟨[], [(b20, q43), (b18, q36)]⟩ := hC
    replace hB : Bxs G w w0.heap.size [(b32, 98, ((.int .i64 x23.seq) :: (x23.dig.cells ++ []))), (b31, 43, x23.cells)] ⟨[], [(b20, q43), (b18, q36)]⟩ := hB
    refine wdNext hGd rfl (kpKeep rfl (kpDrop rfl kpNil)) (Tk.cons (p := (_, fun w => OpVal _ _ _ w _ _)) (opLookupH rfl rfl (hr52 _ _ (hC.heldAt 0 rfl))) (Tk.nil _)) ?_
    refine wdRo 5 rfl (by kernel_rfl) rfl (fun _ => (opExtract rfl rfl)) rfl ?_
    refine wdAll [6] (by kernel_rfl) rfl ⟨wd1 rfl ?_, trivial⟩
    intro hGd
    obtain ⟨q53, hM54, hr55⟩ := hst49 (.int .i64 (IntKind.wrap .i64 (((mget Db ((Mark.mk x23.seq x23.dig))).getD (0 : Int)) + 1))) (IntKind.wrap .i64 (((mget Db ((Mark.mk x23.seq x23.dig))).getD (0 : Int)) + 1)) rfl
    refine wlEntryStoreH hC hB (i := 0) rfl rfl rfl rfl (hr55 _ _ (hC.heldAt 0 rfl)) rfl ?_; intro w hC hB
    replace hC : Cx w0 G0 G w ⟨[], [(b20, q53), (b18, q36)]⟩ := hC
    replace hB : Bxs G w w0.heap.size [(b32, 98, ((.int .i64 x23.seq) :: (x23.dig.cells ++ []))), (b31, 43, x23.cells)] ⟨[], [(b20, q53), (b18, q36)]⟩ := hB
    refine wdNext hGd rfl (kpDrop rfl kpNil) (Tk.nil _) ?_
    refine wdDone (by kernel_rfl) ?_
    refine wcOf ?_
    refine wcSeq ?_
    refine wcDrawS 41 [0, 1, 3, 7, 0, 16, 63, 127, 255, 511, 1023, 2047, 4095, 8191, 16383, 32767, 65535, 131071, 262143, 262143, 786431, 2097151, 4194303, 262143, 16777215, 33554431, 67108863, 134217727, 268435455, 536870911, 536870911, 1610612735, 4294967295, 8589934591, 17179869183, 34359738367, 68719476735, 68719476735, 274877906943, 549755813887, 1099511627775] fmix (by kernel_rfl) (by kernel_rfl) rfl hC hB ?_; intro w hC hB
    refine wdRo 0 rfl (by kernel_rfl) rfl (fun _ => (opMove rfl)) rfl ?_
    refine wdRo 1 rfl (by kernel_rfl) rfl (fun _ => (opNilCheck rfl)) rfl ?_
    refine wdRo 2 rfl (by kernel_rfl) rfl (fun _ => (opFieldAddr rfl fo70_2)) rfl ?_
    refine wdTake 3 rfl (by kernel_rfl) rfl (opLoadOne (v := (.map (some l2))) rfl (RowG.cell hC.holds hF13 (j := 3) rfl) one68) rfl ?_
    refine wdRo 4 rfl (by kernel_rfl) rfl (fun _ => (opFieldAddr rfl fo43_0)) rfl ?_
    refine wdTake 5 rfl (by kernel_rfl) rfl (opLoadOne (v := (.int .i64 x23.seq)) rfl (hB.cell (i := 1) rfl (by simp [Word.cells, Stand.cells, Wd.cells, Mark.cells])) one3) rfl ?_
    obtain ⟨v58, hv59, hr60⟩ := hM8.lookup (keyL_int ui3) mk68 zv59 (isPt' _ (Pt.mk none)) x23.seq
    rcases hf56 : s.f x23.seq with _ | t57
    · skip
      rw [hH9.at_none hf56] at hv59
      replace hv59 : v58 = .pointer none := hv59
      subst hv59
      refine wdTake 6 rfl (by kernel_rfl) rfl (opLookupH rfl rfl (hr60 _ _ (hl11.at_ hC.holds))) rfl ?_
      refine wdRo 7 rfl (by kernel_rfl) rfl (fun _ => (OpVal.cast (v' := .bool true) (opPtrNil ip59 rfl rfl) rfl)) rfl ?_
      refine wdRo 8 rfl (by kernel_rfl) rfl (fun _ => (opMove rfl)) rfl ?_
      refine wdOff 9 rfl (by kernel_rfl) rfl rfl rfl rfl rfl ?_
      refine wdOff 10 rfl (by kernel_rfl) rfl rfl rfl rfl rfl ?_
      refine wdOff 11 rfl (by kernel_rfl) rfl rfl rfl rfl rfl ?_
      refine wdOff 12 rfl (by kernel_rfl) rfl rfl rfl rfl rfl ?_
      refine wdRo 13 rfl (by kernel_rfl) rfl (fun _ => (opPickT rfl rfl)) rfl ?_
      refine wdRo 14 rfl (by kernel_rfl) rfl (fun _ => (opMove rfl)) rfl ?_
      refine wdOff 15 rfl (by kernel_rfl) rfl rfl rfl rfl rfl ?_
      refine wdOff 16 rfl (by kernel_rfl) rfl rfl rfl rfl rfl ?_
      refine wdOff 17 rfl (by kernel_rfl) rfl rfl rfl rfl rfl ?_
      refine wdOffU 18 rfl (by kernel_rfl) rfl rfl rfl rfl ?_
      refine wdOffU 19 rfl (by kernel_rfl) rfl rfl rfl rfl ?_
      refine wdOffU 20 rfl (by kernel_rfl) rfl rfl rfl rfl ?_
      refine wdOffU 21 rfl (by kernel_rfl) rfl rfl rfl rfl ?_
      refine wdOffU 22 rfl (by kernel_rfl) rfl rfl rfl rfl ?_
      refine wdOffU 23 rfl (by kernel_rfl) rfl rfl rfl rfl ?_
      refine wdOffU 24 rfl (by kernel_rfl) rfl rfl rfl rfl ?_
      refine wdOffU 25 rfl (by kernel_rfl) rfl rfl rfl rfl ?_
      refine wdOff 26 rfl (by kernel_rfl) rfl rfl rfl rfl rfl ?_
      refine wdRo 27 rfl (by kernel_rfl) rfl (fun _ => (opPickT rfl rfl)) rfl ?_
      refine wdRo 28 rfl (by kernel_rfl) rfl (fun _ => (opMove rfl)) rfl ?_
      refine wdOff 29 rfl (by kernel_rfl) rfl rfl rfl rfl rfl ?_
      refine wdOff 30 rfl (by kernel_rfl) rfl rfl rfl rfl rfl ?_
      refine wdOff 31 rfl (by kernel_rfl) rfl rfl rfl rfl rfl ?_
      refine wdOff 32 rfl (by kernel_rfl) rfl rfl rfl rfl rfl ?_
      refine wdOff 33 rfl (by kernel_rfl) rfl rfl rfl rfl rfl ?_
      refine wdRo 34 rfl (by kernel_rfl) rfl (fun _ => (opPickT rfl rfl)) rfl ?_
      refine wdRo 35 rfl (by kernel_rfl) rfl (fun _ => (opMove rfl)) rfl ?_
      refine wdOff 36 rfl (by kernel_rfl) rfl rfl rfl rfl rfl ?_
      refine wdOff 37 rfl (by kernel_rfl) rfl rfl rfl rfl rfl ?_
      refine wdOff 38 rfl (by kernel_rfl) rfl rfl rfl rfl rfl ?_
      refine wdOff 39 rfl (by kernel_rfl) rfl rfl rfl rfl rfl ?_
      refine wdRo 40 rfl (by kernel_rfl) rfl (fun _ => (opPickT rfl rfl)) rfl ?_
      refine wdDone (by kernel_rfl) ?_
      refine wcOf ?_
      refine wcCondT rfl ?_
      refine wcSeq ?_
      refine wcRegion ?_
      refine wlVal (opAssign rfl) rfl ?_
      refine wlThen ?_
      refine wcRet ?_
      exact fun ac_ ha => hQ _ _ _ (results1 ha rfl rfl) ha.df (endS hC hw (by rw [← hI, drop_get hx24]; simp only [qMayG, h22, hf56, lePrev, gePrev, Option.isSome_some, Option.isSome_none, Option.isNone_some, Option.isNone_none, cond_true, cond_false, Bool.not_true, Bool.not_false, Bool.and_true, Bool.and_false, Bool.true_and, Bool.false_and, Bool.or_true, Bool.true_or, Bool.or_false, Bool.false_or]))
    · skip
      obtain ⟨r61, hD62, hr63, hx64⟩ := hH9.res_some hL12 hf56
      rw [hD62] at hv59
      replace hv59 : v58 = .pointer (some ⟨r61.p, 0, none⟩) := hv59
      subst hv59
      have hF65 := hx64.row hr63
      have hM66 := hx64.pre
      have hM67 := hx64.com
      have hl68 := hr63.m1
      have hl69 := hr63.m2
      have hq70 := hx64.qSl hr63
      obtain ⟨A71, cap72, e73⟩ := hq70.form
      rw [e73] at hq70 hF65
      refine wdTake 6 rfl (by kernel_rfl) rfl (opLookupH rfl rfl (hr60 _ _ (hl11.at_ hC.holds))) rfl ?_
      refine wdRo 7 rfl (by kernel_rfl) rfl (fun _ => (OpVal.cast (v' := .bool false) (opPtrNil ip59 rfl rfl) rfl)) rfl ?_
      refine wdRo 8 rfl (by kernel_rfl) rfl (fun _ => (opMove rfl)) rfl ?_
      refine wdRoG 9 rfl (by kernel_rfl) rfl rfl rfl (fun _ => (opFieldAddr rfl fo43_2)) rfl ?_
      refine wdTakeG 10 rfl (by kernel_rfl) rfl rfl rfl (opLoadOne (v := (.int .i64 x23.view)) rfl (hB.cell (i := 1) rfl (by simp [Word.cells, Stand.cells, Wd.cells, Mark.cells])) one3) rfl ?_
      refine wdAll [11] (by kernel_rfl) rfl ⟨wd1 rfl ?_, trivial⟩
      intro hGd
      refine wlOn rfl rfl ?_
      refine wlCallS hC hB rfl co33 rfl rfl (viewMay_ret _ _ hC.holds x23.view) ?_; intro w hk hC hB
      refine wdNext hGd rfl (kpDrop rfl (kpDrop rfl (kpDrop rfl (kpDrop rfl kpNil)))) (Tk.nil _) ?_
      refine wdRoG 12 rfl (by kernel_rfl) rfl rfl rfl (fun _ => (opNot rfl)) rfl ?_
      refine wdRo 13 rfl (by kernel_rfl) rfl (fun _ => (opPickF rfl rfl)) rfl ?_
      refine wdRo 14 rfl (by kernel_rfl) rfl (fun _ => (opMove rfl)) rfl ?_
      cases h74 : (viewB x23.view)
      · skip
        refine wdOff 15 rfl (by kernel_rfl) rfl rfl rfl rfl rfl ?_
        refine wdOff 16 rfl (by kernel_rfl) rfl rfl rfl rfl rfl ?_
        refine wdOff 17 rfl (by kernel_rfl) rfl rfl rfl rfl rfl ?_
        refine wdOffU 18 rfl (by kernel_rfl) rfl rfl rfl rfl ?_
        refine wdOffU 19 rfl (by kernel_rfl) rfl rfl rfl rfl ?_
        refine wdOffU 20 rfl (by kernel_rfl) rfl rfl rfl rfl ?_
        refine wdOffU 21 rfl (by kernel_rfl) rfl rfl rfl rfl ?_
        refine wdOffU 22 rfl (by kernel_rfl) rfl rfl rfl rfl ?_
        refine wdOffU 23 rfl (by kernel_rfl) rfl rfl rfl rfl ?_
        refine wdOffU 24 rfl (by kernel_rfl) rfl rfl rfl rfl ?_
        refine wdOffU 25 rfl (by kernel_rfl) rfl rfl rfl rfl ?_
        refine wdOff 26 rfl (by kernel_rfl) rfl rfl rfl rfl rfl ?_
        refine wdRo 27 rfl (by kernel_rfl) rfl (fun _ => (opPickT rfl rfl)) rfl ?_
        refine wdRo 28 rfl (by kernel_rfl) rfl (fun _ => (opMove rfl)) rfl ?_
        refine wdOff 29 rfl (by kernel_rfl) rfl rfl rfl rfl rfl ?_
        refine wdOff 30 rfl (by kernel_rfl) rfl rfl rfl rfl rfl ?_
        refine wdOff 31 rfl (by kernel_rfl) rfl rfl rfl rfl rfl ?_
        refine wdOff 32 rfl (by kernel_rfl) rfl rfl rfl rfl rfl ?_
        refine wdOff 33 rfl (by kernel_rfl) rfl rfl rfl rfl rfl ?_
        refine wdRo 34 rfl (by kernel_rfl) rfl (fun _ => (opPickT rfl rfl)) rfl ?_
        refine wdRo 35 rfl (by kernel_rfl) rfl (fun _ => (opMove rfl)) rfl ?_
        refine wdOff 36 rfl (by kernel_rfl) rfl rfl rfl rfl rfl ?_
        refine wdOff 37 rfl (by kernel_rfl) rfl rfl rfl rfl rfl ?_
        refine wdOff 38 rfl (by kernel_rfl) rfl rfl rfl rfl rfl ?_
        refine wdOff 39 rfl (by kernel_rfl) rfl rfl rfl rfl rfl ?_
        refine wdRo 40 rfl (by kernel_rfl) rfl (fun _ => (opPickT rfl rfl)) rfl ?_
        refine wdDone (by kernel_rfl) ?_
        refine wcOf ?_
        refine wcCondT rfl ?_
        refine wcSeq ?_
        refine wcRegion ?_
        refine wlVal (opAssign rfl) rfl ?_
        refine wlThen ?_
        refine wcRet ?_
        exact fun ac_ ha => hQ _ _ _ (results1 ha rfl rfl) ha.df (endS hC hw (by rw [← hI, drop_get hx24]; simp only [qMayG, h22, hf56, h74, lePrev, gePrev, Option.isSome_some, Option.isSome_none, Option.isNone_some, Option.isNone_none, cond_true, cond_false, Bool.not_true, Bool.not_false, Bool.and_true, Bool.and_false, Bool.true_and, Bool.false_and, Bool.or_true, Bool.true_or, Bool.or_false, Bool.false_or]))
      · skip
        refine wdRoG 15 rfl (by kernel_rfl) rfl rfl rfl (fun _ => (opMove rfl)) rfl ?_
        refine wdRoG 16 rfl (by kernel_rfl) rfl rfl rfl (fun _ => (opGtr rfl rfl)) rfl ?_
        refine wdRoG 17 rfl (by kernel_rfl) rfl rfl rfl (fun _ => (opMove rfl)) rfl ?_
        cases h75 : decide (0 < ((k : Nat) : Int))
        · skip
          refine wdOff 18 rfl (by kernel_rfl) rfl rfl rfl rfl rfl ?_
          refine wdOff 19 rfl (by kernel_rfl) rfl rfl rfl rfl rfl ?_
          refine wdOff 20 rfl (by kernel_rfl) rfl rfl rfl rfl rfl ?_
          refine wdOff 21 rfl (by kernel_rfl) rfl rfl rfl rfl rfl ?_
          refine wdOff 22 rfl (by kernel_rfl) rfl rfl rfl rfl rfl ?_
          refine wdOff 23 rfl (by kernel_rfl) rfl rfl rfl rfl rfl ?_
          refine wdOff 24 rfl (by kernel_rfl) rfl rfl rfl rfl rfl ?_
          refine wdOff 25 rfl (by kernel_rfl) rfl rfl rfl rfl rfl ?_
          refine wdRoG 26 rfl (by kernel_rfl) rfl rfl rfl (fun _ => (opPickF rfl rfl)) rfl ?_
          refine wdRo 27 rfl (by kernel_rfl) rfl (fun _ => (opPickF rfl rfl)) rfl ?_
          refine wdRo 28 rfl (by kernel_rfl) rfl (fun _ => (opMove rfl)) rfl ?_
          refine wdRoG 29 rfl (by kernel_rfl) rfl rfl rfl (fun _ => (opMove rfl)) rfl ?_
          refine wdRoG 30 rfl (by kernel_rfl) rfl rfl rfl (fun _ => (opFieldAddr rfl fo43_0)) rfl ?_
          refine wdTakeG 31 rfl (by kernel_rfl) rfl rfl rfl (opLoadOne (v := (.int .i64 x23.seq)) rfl (hB.cell (i := 1) rfl (by simp [Word.cells, Stand.cells, Wd.cells, Mark.cells])) one3) rfl ?_
          obtain ⟨v76, hv77, hr78⟩ := hM37.lookup (keyL_int ui3) mk95 zv3 rfl x23.seq
          obtain rfl := Gx.isI hv77
          refine wdTakeG 32 rfl (by kernel_rfl) rfl rfl rfl (opLookupH rfl rfl (hr78 _ _ (hC.heldAt 1 rfl))) rfl ?_
          refine wdRoG 33 rfl (by kernel_rfl) rfl rfl rfl (fun _ => (opGtr rfl rfl)) rfl ?_
          refine wdRo 34 rfl (by kernel_rfl) rfl (fun _ => (opPickF rfl rfl)) rfl ?_
          refine wdRo 35 rfl (by kernel_rfl) rfl (fun _ => (opMove rfl)) rfl ?_
          cases h79 : decide (4 < ((mget ((mput Da x23.seq (IntKind.wrap .i64 (((mget Da x23.seq).getD (0 : Int)) + 1)))) x23.seq).getD (0 : Int)))
          · skip
            refine wdRoG 36 rfl (by kernel_rfl) rfl rfl rfl (fun _ => (opMove rfl)) rfl ?_
            refine wdTakeG 37 rfl (by kernel_rfl) rfl rfl rfl (opLoadRow (cs := ((.int .i64 x23.seq) :: (x23.dig.cells ++ []))) rfl (hB.range (i := 0) (m := 33) rfl (by simp [Word.cells, Stand.cells, Wd.cells, Mark.cells])) row98 (by simp [Word.cells, Stand.cells, Wd.cells, Mark.cells])) rfl ?_
            obtain ⟨v80, hv81, hr82⟩ := hM54.lookup keyL98 mk96 zv3 rfl ((Mark.mk x23.seq x23.dig))
            obtain rfl := Gx.isI hv81
            refine wdTakeG 38 rfl (by kernel_rfl) rfl rfl rfl (opLookupH rfl rfl (hr82 _ _ (hC.heldAt 0 rfl))) rfl ?_
            refine wdRoG 39 rfl (by kernel_rfl) rfl rfl rfl (fun _ => (opGtr rfl rfl)) rfl ?_
            refine wdRo 40 rfl (by kernel_rfl) rfl (fun _ => (opPickF rfl rfl)) rfl ?_
            refine wdDone (by kernel_rfl) ?_
            refine wcOf ?_
            cases h83 : decide (1 < ((mget ((mput Db ((Mark.mk x23.seq x23.dig)) (IntKind.wrap .i64 (((mget Db ((Mark.mk x23.seq x23.dig))).getD (0 : Int)) + 1)))) ((Mark.mk x23.seq x23.dig))).getD (0 : Int)))
            · skip
              refine wcCondF rfl ?_
              refine wcSkip ?_
              refine wcOf ?_
              refine wcRegion ?_
              refine wlVal (opIncr rfl rfl (incr_ok (of_decide_eq_true h22) hl.le)) rfl ?_
              refine wlVal (opMove rfl) rfl ?_
              refine wlRound ?_
              exact (IH0 (k + 1, q36, (mput Da x23.seq (IntKind.wrap .i64 (((mget Da x23.seq).getD (0 : Int)) + 1))), q53, (mput Db ((Mark.mk x23.seq x23.dig)) (IntKind.wrap .i64 (((mget Db ((Mark.mk x23.seq x23.dig))).getD (0 : Int)) + 1)))) _ _ ⟨hC, hB.tail.tail, hn7, hOs, hs, hM8, hH9, hb10, hl11, hL12, hl, hF13, hM37, hM54, (by rw [← hI, drop_get hx24]; simp only [qMayG, h22, hf56, h74, h75, h79, h83, prevQ_zero h75, prevQ_succ hx24, lePrev, gePrev, Option.isSome_some, Option.isSome_none, Option.isNone_some, Option.isNone_none, cond_true, cond_false, Bool.not_true, Bool.not_false, Bool.and_true, Bool.and_false, Bool.true_and, Bool.false_and, Bool.or_true, Bool.true_or, Bool.or_false, Bool.false_or])⟩ (by have := of_decide_eq_true h22; simp; omega)).sub (fun _ ha => (((((((ha.start.cons ha (t := 0) rfl).cons ha (t := 1) rfl).cons ha (t := 5) rfl).cons ha (t := 6) rfl).cons ha (t := 12) rfl).cons ha (t := 13) rfl).cons ha (t := 14) rfl))
            · skip
              refine wcCondT rfl ?_
              refine wcSeq ?_
              refine wcRegion ?_
              refine wlVal (opAssign rfl) rfl ?_
              refine wlThen ?_
              refine wcRet ?_
              exact fun ac_ ha => hQ _ _ _ (results1 ha rfl rfl) ha.df (endS hC hw (by rw [← hI, drop_get hx24]; simp only [qMayG, h22, hf56, h74, h75, h79, h83, prevQ_zero h75, lePrev, gePrev, Option.isSome_some, Option.isSome_none, Option.isNone_some, Option.isNone_none, cond_true, cond_false, Bool.not_true, Bool.not_false, Bool.and_true, Bool.and_false, Bool.true_and, Bool.false_and, Bool.or_true, Bool.true_or, Bool.or_false, Bool.false_or]))
          · skip
            refine wdOff 36 rfl (by kernel_rfl) rfl rfl rfl rfl rfl ?_
            refine wdOff 37 rfl (by kernel_rfl) rfl rfl rfl rfl rfl ?_
            refine wdOff 38 rfl (by kernel_rfl) rfl rfl rfl rfl rfl ?_
            refine wdOff 39 rfl (by kernel_rfl) rfl rfl rfl rfl rfl ?_
            refine wdRo 40 rfl (by kernel_rfl) rfl (fun _ => (opPickT rfl rfl)) rfl ?_
            refine wdDone (by kernel_rfl) ?_
            refine wcOf ?_
            refine wcCondT rfl ?_
            refine wcSeq ?_
            refine wcRegion ?_
            refine wlVal (opAssign rfl) rfl ?_
            refine wlThen ?_
            refine wcRet ?_
            exact fun ac_ ha => hQ _ _ _ (results1 ha rfl rfl) ha.df (endS hC hw (by rw [← hI, drop_get hx24]; simp only [qMayG, h22, hf56, h74, h75, h79, prevQ_zero h75, lePrev, gePrev, Option.isSome_some, Option.isSome_none, Option.isNone_some, Option.isNone_none, cond_true, cond_false, Bool.not_true, Bool.not_false, Bool.and_true, Bool.and_false, Bool.true_and, Bool.false_and, Bool.or_true, Bool.true_or, Bool.or_false, Bool.false_or]))
        · skip
          refine wdRoG 18 rfl (by kernel_rfl) rfl rfl rfl (fun _ => (opMove rfl)) rfl ?_
          refine wdRoG 19 rfl (by kernel_rfl) rfl rfl rfl (fun _ => (opMove rfl)) rfl ?_
          refine wdRoG 20 rfl (by kernel_rfl) rfl rfl rfl (fun _ => (opDecr rfl rfl (Int.ofNat_lt.1 (of_decide_eq_true h75)) (incr_ok (of_decide_eq_true h22) hl.le))) rfl ?_
          obtain ⟨x84, hx85⟩ : ∃ y_, l[(k - 1)]? = some y_ := ⟨_, List.getElem?_eq_getElem (by have q := of_decide_eq_true h22; omega)⟩
          obtain ⟨row88, hr89, hi90⟩ := Sl.elem' hl hx85
          obtain rfl := hi90
          refine wdRoG 21 rfl (by kernel_rfl) rfl rfl rfl (fun _ => (opIndexAddr rfl rfl slo33 (by have q := of_decide_eq_true h22; omega))) rfl ?_
          refine wdTakeG 22 rfl (by kernel_rfl) rfl rfl rfl (opLoadRow (cs := x84.cells) rfl (RowG.range hC.holds hr89) row43 (by simp [Word.cells, Stand.cells, Wd.cells, Mark.cells])) rfl ?_
          refine wdTakeG 23 rfl (by kernel_rfl) rfl rfl rfl (opLoadRow (cs := x23.cells) rfl (hB.range (i := 1) (m := 34) rfl (by simp [Word.cells, Stand.cells, Wd.cells, Mark.cells])) row43 (by simp [Word.cells, Stand.cells, Wd.cells, Mark.cells])) rfl ?_
          refine wdAll [24] (by kernel_rfl) rfl ⟨wd1 rfl ?_, trivial⟩
          intro hGd
          refine wlOn rfl rfl ?_
          refine wlCallS hC hB rfl co38 rfl rfl (order_ret _ _ hC.holds x84 x23) ?_; intro w hk hC hB
          refine wdNext hGd rfl (kpDrop rfl (kpDrop rfl kpNil)) (Tk.nil _) ?_
          refine wdRoG 25 rfl (by kernel_rfl) rfl rfl rfl (fun _ => (opGeq rfl rfl)) rfl ?_
          refine wdRoG 26 rfl (by kernel_rfl) rfl rfl rfl (fun _ => (opPickT rfl rfl)) rfl ?_
          refine wdRo 27 rfl (by kernel_rfl) rfl (fun _ => (opPickF rfl rfl)) rfl ?_
          refine wdRo 28 rfl (by kernel_rfl) rfl (fun _ => (opMove rfl)) rfl ?_
          cases h92 : decide (0 ≤ ((ordS x84 x23)))
          · skip
            refine wdRoG 29 rfl (by kernel_rfl) rfl rfl rfl (fun _ => (opMove rfl)) rfl ?_
            refine wdRoG 30 rfl (by kernel_rfl) rfl rfl rfl (fun _ => (opFieldAddr rfl fo43_0)) rfl ?_
            refine wdTakeG 31 rfl (by kernel_rfl) rfl rfl rfl (opLoadOne (v := (.int .i64 x23.seq)) rfl (hB.cell (i := 1) rfl (by simp [Word.cells, Stand.cells, Wd.cells, Mark.cells])) one3) rfl ?_
            obtain ⟨v93, hv94, hr95⟩ := hM37.lookup (keyL_int ui3) mk95 zv3 rfl x23.seq
            obtain rfl := Gx.isI hv94
            refine wdTakeG 32 rfl (by kernel_rfl) rfl rfl rfl (opLookupH rfl rfl (hr95 _ _ (hC.heldAt 1 rfl))) rfl ?_
            refine wdRoG 33 rfl (by kernel_rfl) rfl rfl rfl (fun _ => (opGtr rfl rfl)) rfl ?_
            refine wdRo 34 rfl (by kernel_rfl) rfl (fun _ => (opPickF rfl rfl)) rfl ?_
            refine wdRo 35 rfl (by kernel_rfl) rfl (fun _ => (opMove rfl)) rfl ?_
            cases h96 : decide (4 < ((mget ((mput Da x23.seq (IntKind.wrap .i64 (((mget Da x23.seq).getD (0 : Int)) + 1)))) x23.seq).getD (0 : Int)))
            · skip
              refine wdRoG 36 rfl (by kernel_rfl) rfl rfl rfl (fun _ => (opMove rfl)) rfl ?_
              refine wdTakeG 37 rfl (by kernel_rfl) rfl rfl rfl (opLoadRow (cs := ((.int .i64 x23.seq) :: (x23.dig.cells ++ []))) rfl (hB.range (i := 0) (m := 33) rfl (by simp [Word.cells, Stand.cells, Wd.cells, Mark.cells])) row98 (by simp [Word.cells, Stand.cells, Wd.cells, Mark.cells])) rfl ?_
              obtain ⟨v97, hv98, hr99⟩ := hM54.lookup keyL98 mk96 zv3 rfl ((Mark.mk x23.seq x23.dig))
              obtain rfl := Gx.isI hv98
              refine wdTakeG 38 rfl (by kernel_rfl) rfl rfl rfl (opLookupH rfl rfl (hr99 _ _ (hC.heldAt 0 rfl))) rfl ?_
              refine wdRoG 39 rfl (by kernel_rfl) rfl rfl rfl (fun _ => (opGtr rfl rfl)) rfl ?_
              refine wdRo 40 rfl (by kernel_rfl) rfl (fun _ => (opPickF rfl rfl)) rfl ?_
              refine wdDone (by kernel_rfl) ?_
              refine wcOf ?_
              cases h100 : decide (1 < ((mget ((mput Db ((Mark.mk x23.seq x23.dig)) (IntKind.wrap .i64 (((mget Db ((Mark.mk x23.seq x23.dig))).getD (0 : Int)) + 1)))) ((Mark.mk x23.seq x23.dig))).getD (0 : Int)))
              · skip
                refine wcCondF rfl ?_
                refine wcSkip ?_
                refine wcOf ?_
                refine wcRegion ?_
                refine wlVal (opIncr rfl rfl (incr_ok (of_decide_eq_true h22) hl.le)) rfl ?_
                refine wlVal (opMove rfl) rfl ?_
                refine wlRound ?_
                exact (IH0 (k + 1, q36, (mput Da x23.seq (IntKind.wrap .i64 (((mget Da x23.seq).getD (0 : Int)) + 1))), q53, (mput Db ((Mark.mk x23.seq x23.dig)) (IntKind.wrap .i64 (((mget Db ((Mark.mk x23.seq x23.dig))).getD (0 : Int)) + 1)))) _ _ ⟨hC, hB.tail.tail, hn7, hOs, hs, hM8, hH9, hb10, hl11, hL12, hl, hF13, hM37, hM54, (by rw [← hI, drop_get hx24]; simp only [qMayG, h22, hf56, h74, h75, h92, h96, h100, prevQ_of h75 hx85, prevQ_succ hx24, lePrev, gePrev, Option.isSome_some, Option.isSome_none, Option.isNone_some, Option.isNone_none, cond_true, cond_false, Bool.not_true, Bool.not_false, Bool.and_true, Bool.and_false, Bool.true_and, Bool.false_and, Bool.or_true, Bool.true_or, Bool.or_false, Bool.false_or])⟩ (by have := of_decide_eq_true h22; have := of_decide_eq_true h75; simp; omega)).sub (fun _ ha => (((((((ha.start.cons ha (t := 0) rfl).cons ha (t := 1) rfl).cons ha (t := 5) rfl).cons ha (t := 6) rfl).cons ha (t := 12) rfl).cons ha (t := 13) rfl).cons ha (t := 14) rfl))
              · skip
                refine wcCondT rfl ?_
                refine wcSeq ?_
                refine wcRegion ?_
                refine wlVal (opAssign rfl) rfl ?_
                refine wlThen ?_
                refine wcRet ?_
                exact fun ac_ ha => hQ _ _ _ (results1 ha rfl rfl) ha.df (endS hC hw (by rw [← hI, drop_get hx24]; simp only [qMayG, h22, hf56, h74, h75, h92, h96, h100, prevQ_of h75 hx85, lePrev, gePrev, Option.isSome_some, Option.isSome_none, Option.isNone_some, Option.isNone_none, cond_true, cond_false, Bool.not_true, Bool.not_false, Bool.and_true, Bool.and_false, Bool.true_and, Bool.false_and, Bool.or_true, Bool.true_or, Bool.or_false, Bool.false_or]))
            · skip
              refine wdOff 36 rfl (by kernel_rfl) rfl rfl rfl rfl rfl ?_
              refine wdOff 37 rfl (by kernel_rfl) rfl rfl rfl rfl rfl ?_
              refine wdOff 38 rfl (by kernel_rfl) rfl rfl rfl rfl rfl ?_
              refine wdOff 39 rfl (by kernel_rfl) rfl rfl rfl rfl rfl ?_
              refine wdRo 40 rfl (by kernel_rfl) rfl (fun _ => (opPickT rfl rfl)) rfl ?_
              refine wdDone (by kernel_rfl) ?_
              refine wcOf ?_
              refine wcCondT rfl ?_
              refine wcSeq ?_
              refine wcRegion ?_
              refine wlVal (opAssign rfl) rfl ?_
              refine wlThen ?_
              refine wcRet ?_
              exact fun ac_ ha => hQ _ _ _ (results1 ha rfl rfl) ha.df (endS hC hw (by rw [← hI, drop_get hx24]; simp only [qMayG, h22, hf56, h74, h75, h92, h96, prevQ_of h75 hx85, lePrev, gePrev, Option.isSome_some, Option.isSome_none, Option.isNone_some, Option.isNone_none, cond_true, cond_false, Bool.not_true, Bool.not_false, Bool.and_true, Bool.and_false, Bool.true_and, Bool.false_and, Bool.or_true, Bool.true_or, Bool.or_false, Bool.false_or]))
          · skip
            refine wdOff 29 rfl (by kernel_rfl) rfl rfl rfl rfl rfl ?_
            refine wdOff 30 rfl (by kernel_rfl) rfl rfl rfl rfl rfl ?_
            refine wdOff 31 rfl (by kernel_rfl) rfl rfl rfl rfl rfl ?_
            refine wdOff 32 rfl (by kernel_rfl) rfl rfl rfl rfl rfl ?_
            refine wdOff 33 rfl (by kernel_rfl) rfl rfl rfl rfl rfl ?_
            refine wdRo 34 rfl (by kernel_rfl) rfl (fun _ => (opPickT rfl rfl)) rfl ?_
            refine wdRo 35 rfl (by kernel_rfl) rfl (fun _ => (opMove rfl)) rfl ?_
            refine wdOff 36 rfl (by kernel_rfl) rfl rfl rfl rfl rfl ?_
            refine wdOff 37 rfl (by kernel_rfl) rfl rfl rfl rfl rfl ?_
            refine wdOff 38 rfl (by kernel_rfl) rfl rfl rfl rfl rfl ?_
            refine wdOff 39 rfl (by kernel_rfl) rfl rfl rfl rfl rfl ?_
            refine wdRo 40 rfl (by kernel_rfl) rfl (fun _ => (opPickT rfl rfl)) rfl ?_
            refine wdDone (by kernel_rfl) ?_
            refine wcOf ?_
            refine wcCondT rfl ?_
            refine wcSeq ?_
            refine wcRegion ?_
            refine wlVal (opAssign rfl) rfl ?_
            refine wlThen ?_
            refine wcRet ?_
            exact fun ac_ ha => hQ _ _ _ (results1 ha rfl rfl) ha.df (endS hC hw (by rw [← hI, drop_get hx24]; simp only [qMayG, h22, hf56, h74, h75, h92, prevQ_of h75 hx85, lePrev, gePrev, Option.isSome_some, Option.isSome_none, Option.isNone_some, Option.isNone_none, cond_true, cond_false, Bool.not_true, Bool.not_false, Bool.and_true, Bool.and_false, Bool.true_and, Bool.false_and, Bool.or_true, Bool.true_or, Bool.or_false, Bool.false_or]))

theorem propose_ret (G0 : Gh) (w0 : World) (hw : Holds G0 w0) (bs : Nat) (Os : List (Nat × Obj)) (s : SlS) (hOs : ∀ x ∈ Os, w0.heap[x.1]? = some x.2 ∧ G0 x.1 = none) (hds : (Os.map (·.1)).Nodup) (hs : SlO G0 bs Os s) (v : Int) (k : Int) (d : Dig) (hsil : RowG G0 0 0 silence.cells) (hok : SlOk s) :
    RetT Tryd.prog 18 #[.pointer (some ⟨bs, 0, none⟩), .int .i64 v, .int .i64 k, .agg d.cells.toArray] G0 w0 (List.map (·.1) Os) (fun G O v_ => SlO G bs O (propI s v k d).1 ∧ v_ = .int .i64 (propI s v k d).2) := by
  have hC := Cx.refl hw
  have hB : Bxs G0 w0 w0.heap.size [] := Bxs.nil _ _ _
  obtain ⟨v1, l2, om3, D4, H5, rfl, hn6, hM7, hH8⟩ := hs
  obtain ⟨A9, cap10, rfl⟩ := hn6.form
  have hC := Cx.reflH ((bs, .cells [(.int .i64 s.crew.faults), (.slice A9 s.crew.nodes.length cap10), (.int .i64 s.low), (.map (some l2))].toArray 70 (0, 0)) :: (l2, om3) :: H5) (List.map (·.1) ((bs, .cells [(.int .i64 s.crew.faults), (.slice A9 s.crew.nodes.length cap10), (.int .i64 s.low), (.map (some l2))].toArray 70 (0, 0)) :: (l2, om3) :: H5)) hw (fun x hx => ⟨(hOs x hx).1, (hOs x hx).2, List.mem_map.2 ⟨x, hx, rfl⟩⟩) hds
  have hB : Bxs G0 w0 w0.heap.size [] ⟨(List.map (·.1) ((bs, .cells [(.int .i64 s.crew.faults), (.slice A9 s.crew.nodes.length cap10), (.int .i64 s.low), (.map (some l2))].toArray 70 (0, 0)) :: (l2, om3) :: H5)), ((bs, .cells [(.int .i64 s.crew.faults), (.slice A9 s.crew.nodes.length cap10), (.int .i64 s.low), (.map (some l2))].toArray 70 (0, 0)) :: (l2, om3) :: H5)⟩ := Bxs.nil _ _ _
  refine callsOf Tryd.func18 rfl _ Tryd.ntmps18 rfl _ (argsCons (argsCons (argsCons (argsCons argsNil (t := 0) rfl) (t := 1) rfl) (t := 2) rfl) (t := 3) rfl) ?_; intro Q0 hQ
  refine wcSeq ?_
  refine wcRegion ?_
  refine wlBox (cs := d.cells) hC hB rfl rfl rfl ?_; intro b11 w hk hC hB
  refine wlVal (opAssign rfl) rfl ?_
  refine wlThen ?_
  refine wcSeq ?_
  refine wcSeq ?_
  refine wcRegion ?_
  refine wlVal (opMove rfl) rfl ?_
  refine wlCallS hC hB rfl co32 rfl rfl (RetS.lend hC (fun G_ hg_ hh_ hL_ => none_ret _ _ hh_ bs l2 _ s (hL_ (bs, .cells [(.int .i64 s.crew.faults), (.slice A9 s.crew.nodes.length cap10), (.int .i64 s.low), (.map (some l2))].toArray 70 (0, 0)) (by simp)) (hn6.mono hg_))) ?_; intro w hk hC hB
  refine wlThen ?_
  refine wcCondF rfl ?_
  refine wcSkip ?_
  refine wcOf ?_
  refine wcSeq ?_
  refine wcRegion ?_
  refine wlVal (opMove rfl) rfl ?_
  refine wlVal (opNilCheck rfl) rfl ?_
  refine wlVal (opFieldAddr rfl fo70_2) rfl ?_
  refine wlVal (opLoadOne (v := (.map (some l2))) rfl (hC.hcell 0 rfl (o := 3) rfl) one68) rfl ?_
  refine wlVal (opMove rfl) rfl ?_
  obtain ⟨v14, hv15, hr16⟩ := hM7.lookup (keyL_int ui3) mk68 zv59 (isPt' _ (Pt.mk none)) k
  rcases hf12 : s.f k with _ | t13
  · skip
    rw [hH8.at_none hf12] at hv15
    replace hv15 : v14 = .pointer none := hv15
    subst hv15
    refine wlVal (opLookupH rfl rfl (hr16 _ _ (hC.heldAt 1 rfl))) rfl ?_
    refine wlVal (opAssign rfl) rfl ?_
    refine wlThen ?_
    refine wcSeq ?_
    refine wcBlock ?_
    refine wcSeq ?_
    refine wcRegion ?_
    refine wlVal (opMove rfl) rfl ?_
    refine wlCallS hC hB rfl co33 rfl rfl (viewMay_ret _ _ hC.holds v) ?_; intro w hk hC hB
    refine wlVal (opNot rfl) rfl ?_
    refine wlVal (opAssign rfl) rfl ?_
    refine wlThen ?_
    cases h17 : (viewB v)
    · skip
      refine wcCondT rfl ?_
      refine wcSeq ?_
      refine wcRegion ?_
      refine wlVal (opAssign rfl) rfl ?_
      refine wlThen ?_
      refine wcRet ?_
      exact fun ac_ ha => hQ _ _ _ (results1 ha rfl rfl) ha.df (endT hC ((bs, .cells [(.int .i64 s.crew.faults), (.slice A9 s.crew.nodes.length cap10), (.int .i64 s.low), (.map (some l2))].toArray 70 (0, 0)) :: (l2, om3) :: H5) ⟨[], List.Perm.of_eq (List.append_nil _).symm⟩ ⟨(by have e_ : (propI s v k d).1 = s := (by simp only [propI, propS, propQ, hf12, h17, cond_true, cond_false, Bool.not_true, Bool.not_false, Bool.and_true, Bool.and_false, Bool.true_and, Bool.false_and, Bool.or_true, Bool.true_or, Bool.or_false, Bool.false_or, zne]); rw [e_]; exact ⟨_, _, _, _, _, rfl, hn6, hM7, hH8⟩), (by simp only [propI, hf12, h17, cond_true, cond_false, Bool.not_true, Bool.not_false, Bool.and_true, Bool.and_false, Bool.true_and, Bool.false_and, Bool.or_true, Bool.true_or, Bool.or_false, Bool.false_or, zne])⟩)
    · skip
      refine wcCondF rfl ?_
      refine wcSeq ?_
      refine wcRegion ?_
      refine wlVal (opMove rfl) rfl ?_
      refine wlVal (OpVal.cast (v' := .bool true) (opPtrNil ip59 rfl rfl) rfl) rfl ?_
      refine wlVal (opAssign rfl) rfl ?_
      refine wlThen ?_
      refine wcCondT rfl ?_
      refine wcSeq ?_
      refine wcRegion ?_
      refine wlVal (opAssign rfl) rfl ?_
      refine wlThen ?_
      refine wcRet ?_
      exact fun ac_ ha => hQ _ _ _ (results1 ha rfl rfl) ha.df (endT hC ((bs, .cells [(.int .i64 s.crew.faults), (.slice A9 s.crew.nodes.length cap10), (.int .i64 s.low), (.map (some l2))].toArray 70 (0, 0)) :: (l2, om3) :: H5) ⟨[], List.Perm.of_eq (List.append_nil _).symm⟩ ⟨(by have e_ : (propI s v k d).1 = s := (by simp only [propI, propS, propQ, hf12, h17, cond_true, cond_false, Bool.not_true, Bool.not_false, Bool.and_true, Bool.and_false, Bool.true_and, Bool.false_and, Bool.or_true, Bool.true_or, Bool.or_false, Bool.false_or, zne]); rw [e_]; exact ⟨_, _, _, _, _, rfl, hn6, hM7, hH8⟩), (by simp only [propI, hf12, h17, cond_true, cond_false, Bool.not_true, Bool.not_false, Bool.and_true, Bool.and_false, Bool.true_and, Bool.false_and, Bool.or_true, Bool.true_or, Bool.or_false, Bool.false_or, zne])⟩)
  · skip
    obtain ⟨r18, H19, hD20, hS21, hp22, hR23⟩ := hH8.at_some hf12
    rw [hD20] at hv15
    replace hv15 : v14 = .pointer (some ⟨r18.p, 0, none⟩) := hv15
    subst hv15
    refine wlVal (opLookupH rfl rfl (hr16 _ _ (hC.heldAt 1 rfl))) rfl ?_
    have hM24 := hS21.pre
    have hM25 := hS21.com
    have hq26 := hS21.q
    have hc27 : r18.c = ((.int .i64 t13.last.view) :: (t13.last.dig.cells ++ ((.int .i64 t13.prep.view) :: (t13.prep.dig.cells ++ ((.map (some r18.m1)) :: ((.map (some r18.m2)) :: (r18.vq :: []))))))) := hS21.c
    replace hC : Cx w0 G0 G0 w ⟨(List.map (·.1) ((bs, .cells [(.int .i64 s.crew.faults), (.slice A9 s.crew.nodes.length cap10), (.int .i64 s.low), (.map (some l2))].toArray 70 (0, 0)) :: (l2, om3) :: H5)), ((bs, .cells [(.int .i64 s.crew.faults), (.slice A9 s.crew.nodes.length cap10), (.int .i64 s.low), (.map (some l2))].toArray 70 (0, 0)) :: (l2, om3) :: (r18.p, .cells ((.int .i64 t13.last.view) :: (t13.last.dig.cells ++ ((.int .i64 t13.prep.view) :: (t13.prep.dig.cells ++ ((.map (some r18.m1)) :: ((.map (some r18.m2)) :: (r18.vq :: []))))))).toArray 66 (0, 0)) :: (r18.m1, r18.o1) :: (r18.m2, r18.o2) :: (ob r18.oq ++ H19))⟩ := by rw [← hc27]; exact hC.permH ((hp22.cons _).cons _)
    replace hB : Bxs G0 w w0.heap.size [(b11, 38, d.cells)] ⟨(List.map (·.1) ((bs, .cells [(.int .i64 s.crew.faults), (.slice A9 s.crew.nodes.length cap10), (.int .i64 s.low), (.map (some l2))].toArray 70 (0, 0)) :: (l2, om3) :: H5)), ((bs, .cells [(.int .i64 s.crew.faults), (.slice A9 s.crew.nodes.length cap10), (.int .i64 s.low), (.map (some l2))].toArray 70 (0, 0)) :: (l2, om3) :: (r18.p, .cells ((.int .i64 t13.last.view) :: (t13.last.dig.cells ++ ((.int .i64 t13.prep.view) :: (t13.prep.dig.cells ++ ((.map (some r18.m1)) :: ((.map (some r18.m2)) :: (r18.vq :: []))))))).toArray 66 (0, 0)) :: (r18.m1, r18.o1) :: (r18.m2, r18.o2) :: (ob r18.oq ++ H19))⟩ := by rw [← hc27]; exact hB.permH ((hp22.cons _).cons _)
    refine wlVal (opAssign rfl) rfl ?_
    refine wlThen ?_
    refine wcSeq ?_
    refine wcBlock ?_
    refine wcSeq ?_
    refine wcRegion ?_
    refine wlVal (opMove rfl) rfl ?_
    refine wlCallS hC hB rfl co33 rfl rfl (viewMay_ret _ _ hC.holds v) ?_; intro w hk hC hB
    refine wlVal (opNot rfl) rfl ?_
    refine wlVal (opAssign rfl) rfl ?_
    refine wlThen ?_
    cases h28 : (viewB v)
    · skip
      refine wcCondT rfl ?_
      refine wcSeq ?_
      refine wcRegion ?_
      refine wlVal (opAssign rfl) rfl ?_
      refine wlThen ?_
      refine wcRet ?_
      exact fun ac_ ha => hQ _ _ _ (results1 ha rfl rfl) ha.df (endT hC ((bs, .cells [(.int .i64 s.crew.faults), (.slice A9 s.crew.nodes.length cap10), (.int .i64 s.low), (.map (some l2))].toArray 70 (0, 0)) :: (l2, om3) :: (r18.p, .cells ((.int .i64 t13.last.view) :: (t13.last.dig.cells ++ ((.int .i64 t13.prep.view) :: (t13.prep.dig.cells ++ ((.map (some r18.m1)) :: ((.map (some r18.m2)) :: (r18.vq :: []))))))).toArray 66 (0, 0)) :: (r18.m1, r18.o1) :: (r18.m2, r18.o2) :: (ob r18.oq ++ H19)) ⟨[], List.Perm.of_eq (List.append_nil _).symm⟩ ⟨(by have e_ : (propI s v k d).1 = (SlS.mk s.crew s.low (upd s.f k t13)) := (by rw [show (SlS.mk s.crew s.low (upd s.f k t13)) = s from slS_self hf12]; simp only [propI, propS, propQ, hf12, h28, cond_true, cond_false, Bool.not_true, Bool.not_false, Bool.and_true, Bool.and_false, Bool.true_and, Bool.false_and, Bool.or_true, Bool.true_or, Bool.or_false, Bool.false_or, zne]); rw [e_]; exact ⟨_, _, _, _, _, rfl, hn6, hM7, (hR23 _ ⟨r18.p, r18.m1, r18.m2, ((Value.int .i64 t13.last.view) :: (t13.last.dig.cells ++ ((Value.int .i64 t13.prep.view) :: (t13.prep.dig.cells ++ ((Value.map (some r18.m1)) :: ((Value.map (some r18.m2)) :: (r18.vq :: []))))))), r18.o1, r18.o2, r18.vq, r18.oq⟩ t13 (fun _ _ h => h) rfl ⟨rfl, hM24, hM25, hq26, hS21.ql⟩)⟩), (by simp only [propI, hf12, h28, cond_true, cond_false, Bool.not_true, Bool.not_false, Bool.and_true, Bool.and_false, Bool.true_and, Bool.false_and, Bool.or_true, Bool.true_or, Bool.or_false, Bool.false_or, zne])⟩)
    · skip
      refine wcCondF rfl ?_
      refine wcSeq ?_
      refine wcRegion ?_
      refine wlVal (opMove rfl) rfl ?_
      refine wlVal (OpVal.cast (v' := .bool false) (opPtrNil ip59 rfl rfl) rfl) rfl ?_
      refine wlVal (opAssign rfl) rfl ?_
      refine wlThen ?_
      refine wcCondF rfl ?_
      refine wcSkip ?_
      refine wcOf ?_
      refine wcSeq ?_
      refine wcSeq ?_
      refine wcDrawS 8 [0, 1, 3, 7, 0, 0, 63, 127] fmix (by kernel_rfl) (by kernel_rfl) rfl hC hB ?_; intro w hC hB
      refine wdRo 0 rfl (by kernel_rfl) rfl (fun _ => (opMove rfl)) rfl ?_
      refine wdRo 1 rfl (by kernel_rfl) rfl (fun _ => (opNilCheck rfl)) rfl ?_
      refine wdRo 2 rfl (by kernel_rfl) rfl (fun _ => (opFieldAddr rfl fo66_0)) rfl ?_
      refine wdTake 3 rfl (by kernel_rfl) rfl (opLoadRow (cs := t13.last.cells) rfl (hC.hrange 2 rfl (o := 0) (m := 33) (by simp [Word.cells, Stand.cells, Wd.cells, Mark.cells])) row63 (by simp [Word.cells, Stand.cells, Wd.cells, Mark.cells])) rfl ?_
      refine wdRo 4 rfl (by kernel_rfl) rfl (fun _ => (opMove rfl)) rfl ?_
      refine wdTake 5 rfl (by kernel_rfl) rfl (opLoadRow (cs := d.cells) rfl (hB.range (i := 0) (m := 32) rfl (by simp [Word.cells, Stand.cells, Wd.cells, Mark.cells])) row38 (by simp [Word.cells, Stand.cells, Wd.cells, Mark.cells])) rfl ?_
      refine wdAll [6] (by kernel_rfl) rfl ⟨wd1 rfl ?_, trivial⟩
      intro hGd
      refine wlCallS hC hB rfl co34 rfl rfl (goes_ret _ _ hC.holds t13.last v d) ?_; intro w hk hC hB
      refine wdNext hGd rfl (kpDrop rfl (kpDrop rfl kpNil)) (Tk.nil _) ?_
      refine wdRo 7 rfl (by kernel_rfl) rfl (fun _ => (opAssign rfl)) rfl ?_
      refine wdDone (by kernel_rfl) ?_
      refine wcOf ?_
      refine wcSeq ?_
      refine wcRegion ?_
      refine wlVal (opMove rfl) rfl ?_
      refine wlVal (opNeq rfl rfl) rfl ?_
      refine wlThen ?_
      cases h29 : (((goesI t13.last v d))) != 0
      · skip
        refine wcCondF rfl ?_
        refine wcSkip ?_
        refine wcOf ?_
        refine wcSeq ?_
        refine wcRegion ?_
        refine wlVal (opMove rfl) rfl ?_
        refine wlVal (opMove rfl) rfl ?_
        refine wlVal (opLoadRow (cs := d.cells) rfl (hB.range (i := 0) (m := 32) rfl (by simp [Word.cells, Stand.cells, Wd.cells, Mark.cells])) row38 (by simp [Word.cells, Stand.cells, Wd.cells, Mark.cells])) rfl ?_
        refine wlVal (opBuild (ps := [(0, .tmp 38), (1, .tmp 39)]) (cs := ((.int .i64 v) :: (d.cells ++ []))) so63 zero63 rfl rfl (by first | (simp [buildCells, Value.cells]; done) | simp [buildCells, Value.cells, Word.cells, Stand.cells, Wd.cells, Mark.cells])) rfl ?_
        refine wlVal (opNilCheck rfl) rfl ?_
        refine wlVal (opFieldAddr rfl fo66_0) rfl ?_
        obtain ⟨hC, hB⟩ := unhold hC hB (i := 2) rfl
        refine wlStore 0 (vs := ((.int .i64 v) :: (d.cells ++ []))) (cs := ((.int .i64 t13.last.view) :: (t13.last.dig.cells ++ ((.int .i64 t13.prep.view) :: (t13.prep.dig.cells ++ ((.map (some r18.m1)) :: ((.map (some r18.m2)) :: (r18.vq :: [])))))))) (cs' := ((.int .i64 v) :: (d.cells ++ ((.int .i64 t13.prep.view) :: (t13.prep.dig.cells ++ ((.map (some r18.m1)) :: ((.map (some r18.m2)) :: (r18.vq :: [])))))))) hC hB rfl rfl rfl sz63 rfl (by simp [Word.cells, Stand.cells, Wd.cells, Mark.cells]) (by simp [Word.cells, Stand.cells, Wd.cells, Mark.cells, Value.oneCell']) (by simp [Word.cells, Stand.cells, Wd.cells, Mark.cells]) (by simp [Word.cells, Stand.cells, Wd.cells, Mark.cells]) rfl ?_; intro w hC hB
        obtain ⟨hC, hB⟩ := hold hC hB (i := 0) rfl
        replace hC : Cx w0 G0 G0 w ⟨(List.map (·.1) ((bs, .cells [(.int .i64 s.crew.faults), (.slice A9 s.crew.nodes.length cap10), (.int .i64 s.low), (.map (some l2))].toArray 70 (0, 0)) :: (l2, om3) :: H5)), ((r18.p, .cells ((.int .i64 v) :: (d.cells ++ ((.int .i64 t13.prep.view) :: (t13.prep.dig.cells ++ ((.map (some r18.m1)) :: ((.map (some r18.m2)) :: (r18.vq :: []))))))).toArray 66 (0, 0)) :: (bs, .cells [(.int .i64 s.crew.faults), (.slice A9 s.crew.nodes.length cap10), (.int .i64 s.low), (.map (some l2))].toArray 70 (0, 0)) :: (l2, om3) :: (r18.m1, r18.o1) :: (r18.m2, r18.o2) :: (ob r18.oq ++ H19))⟩ := hC
        replace hB : Bxs G0 w w0.heap.size [(b11, 38, d.cells)] ⟨(List.map (·.1) ((bs, .cells [(.int .i64 s.crew.faults), (.slice A9 s.crew.nodes.length cap10), (.int .i64 s.low), (.map (some l2))].toArray 70 (0, 0)) :: (l2, om3) :: H5)), ((r18.p, .cells ((.int .i64 v) :: (d.cells ++ ((.int .i64 t13.prep.view) :: (t13.prep.dig.cells ++ ((.map (some r18.m1)) :: ((.map (some r18.m2)) :: (r18.vq :: []))))))).toArray 66 (0, 0)) :: (bs, .cells [(.int .i64 s.crew.faults), (.slice A9 s.crew.nodes.length cap10), (.int .i64 s.low), (.map (some l2))].toArray 70 (0, 0)) :: (l2, om3) :: (r18.m1, r18.o1) :: (r18.m2, r18.o2) :: (ob r18.oq ++ H19))⟩ := hB
        replace hC := hC.permH (List.perm_middle (l₁ := [(bs, Obj.cells [(.int .i64 s.crew.faults), (.slice A9 s.crew.nodes.length cap10), (.int .i64 s.low), (.map (some l2))].toArray 70 (0, 0)), (l2, om3)]) (l₂ := ((r18.m1, r18.o1) :: (r18.m2, r18.o2) :: (ob r18.oq ++ H19)))).symm
        replace hB := hB.permH (List.perm_middle (l₁ := [(bs, Obj.cells [(.int .i64 s.crew.faults), (.slice A9 s.crew.nodes.length cap10), (.int .i64 s.low), (.map (some l2))].toArray 70 (0, 0)), (l2, om3)]) (l₂ := ((r18.m1, r18.o1) :: (r18.m2, r18.o2) :: (ob r18.oq ++ H19)))).symm
        replace hC : Cx w0 G0 G0 w ⟨(List.map (·.1) ((bs, .cells [(.int .i64 s.crew.faults), (.slice A9 s.crew.nodes.length cap10), (.int .i64 s.low), (.map (some l2))].toArray 70 (0, 0)) :: (l2, om3) :: H5)), ((bs, .cells [(.int .i64 s.crew.faults), (.slice A9 s.crew.nodes.length cap10), (.int .i64 s.low), (.map (some l2))].toArray 70 (0, 0)) :: (l2, om3) :: (r18.p, .cells ((.int .i64 v) :: (d.cells ++ ((.int .i64 t13.prep.view) :: (t13.prep.dig.cells ++ ((.map (some r18.m1)) :: ((.map (some r18.m2)) :: (r18.vq :: []))))))).toArray 66 (0, 0)) :: (r18.m1, r18.o1) :: (r18.m2, r18.o2) :: (ob r18.oq ++ H19))⟩ := hC
        replace hB : Bxs G0 w w0.heap.size [(b11, 38, d.cells)] ⟨(List.map (·.1) ((bs, .cells [(.int .i64 s.crew.faults), (.slice A9 s.crew.nodes.length cap10), (.int .i64 s.low), (.map (some l2))].toArray 70 (0, 0)) :: (l2, om3) :: H5)), ((bs, .cells [(.int .i64 s.crew.faults), (.slice A9 s.crew.nodes.length cap10), (.int .i64 s.low), (.map (some l2))].toArray 70 (0, 0)) :: (l2, om3) :: (r18.p, .cells ((.int .i64 v) :: (d.cells ++ ((.int .i64 t13.prep.view) :: (t13.prep.dig.cells ++ ((.map (some r18.m1)) :: ((.map (some r18.m2)) :: (r18.vq :: []))))))).toArray 66 (0, 0)) :: (r18.m1, r18.o1) :: (r18.m2, r18.o2) :: (ob r18.oq ++ H19))⟩ := hB
        refine wlThen ?_
        refine wcSeq ?_
        refine wcRegion ?_
        refine wlVal (opMove rfl) rfl ?_
        refine wlVal (opNilCheck rfl) rfl ?_
        refine wlVal (opFieldAddr rfl fo66_4) rfl ?_
        obtain ⟨A30, cap31, e32⟩ := hq26.form
        rw [e32] at hq26 hC hB
        replace hC := hC.permH (List.perm_append_comm_assoc [(bs, Obj.cells [(Value.int .i64 s.crew.faults), (Value.slice A9 s.crew.nodes.length cap10), (Value.int .i64 s.low), (Value.map (some l2))].toArray 70 (0, 0)), (l2, om3), (r18.p, Obj.cells ((Value.int .i64 v) :: (d.cells ++ ((Value.int .i64 t13.prep.view) :: (t13.prep.dig.cells ++ ((Value.map (some r18.m1)) :: ((Value.map (some r18.m2)) :: ((Value.slice A30 t13.q.length cap31) :: []))))))).toArray 66 (0, 0)), (r18.m1, r18.o1), (r18.m2, r18.o2)] (ob r18.oq) H19)
        replace hB := hB.permH (List.perm_append_comm_assoc [(bs, Obj.cells [(Value.int .i64 s.crew.faults), (Value.slice A9 s.crew.nodes.length cap10), (Value.int .i64 s.low), (Value.map (some l2))].toArray 70 (0, 0)), (l2, om3), (r18.p, Obj.cells ((Value.int .i64 v) :: (d.cells ++ ((Value.int .i64 t13.prep.view) :: (t13.prep.dig.cells ++ ((Value.map (some r18.m1)) :: ((Value.map (some r18.m2)) :: ((Value.slice A30 t13.q.length cap31) :: []))))))).toArray 66 (0, 0)), (r18.m1, r18.o1), (r18.m2, r18.o2)] (ob r18.oq) H19)
        obtain ⟨hC, hB⟩ := unholdO (o := r18.oq) (L := [(bs, Obj.cells [(Value.int .i64 s.crew.faults), (Value.slice A9 s.crew.nodes.length cap10), (Value.int .i64 s.low), (Value.map (some l2))].toArray 70 (0, 0)), (l2, om3), (r18.p, Obj.cells ((Value.int .i64 v) :: (d.cells ++ ((Value.int .i64 t13.prep.view) :: (t13.prep.dig.cells ++ ((Value.map (some r18.m1)) :: ((Value.map (some r18.m2)) :: ((Value.slice A30 t13.q.length cap31) :: []))))))).toArray 66 (0, 0)), (r18.m1, r18.o1), (r18.m2, r18.o2)] ++ H19) (bl := [(b11, 38, d.cells)]) (r := []) hC (by first | exact hB | simpa using hB)
        replace hC : Cx w0 G0 G0 w ⟨(List.map (·.1) ((bs, .cells [(.int .i64 s.crew.faults), (.slice A9 s.crew.nodes.length cap10), (.int .i64 s.low), (.map (some l2))].toArray 70 (0, 0)) :: (l2, om3) :: H5)), ((bs, .cells [(.int .i64 s.crew.faults), (.slice A9 s.crew.nodes.length cap10), (.int .i64 s.low), (.map (some l2))].toArray 70 (0, 0)) :: (l2, om3) :: (r18.p, .cells ((.int .i64 v) :: (d.cells ++ ((.int .i64 t13.prep.view) :: (t13.prep.dig.cells ++ ((.map (some r18.m1)) :: ((.map (some r18.m2)) :: ((.slice A30 t13.q.length cap31) :: []))))))).toArray 66 (0, 0)) :: (r18.m1, r18.o1) :: (r18.m2, r18.o2) :: H19)⟩ := hC
        replace hB : Bxs G0 w w0.heap.size ([(b11, 38, d.cells)] ++ (Option.toList r18.oq ++ [])) ⟨(List.map (·.1) ((bs, .cells [(.int .i64 s.crew.faults), (.slice A9 s.crew.nodes.length cap10), (.int .i64 s.low), (.map (some l2))].toArray 70 (0, 0)) :: (l2, om3) :: H5)), ((bs, .cells [(.int .i64 s.crew.faults), (.slice A9 s.crew.nodes.length cap10), (.int .i64 s.low), (.map (some l2))].toArray 70 (0, 0)) :: (l2, om3) :: (r18.p, .cells ((.int .i64 v) :: (d.cells ++ ((.int .i64 t13.prep.view) :: (t13.prep.dig.cells ++ ((.map (some r18.m1)) :: ((.map (some r18.m2)) :: ((.slice A30 t13.q.length cap31) :: []))))))).toArray 66 (0, 0)) :: (r18.m1, r18.o1) :: (r18.m2, r18.o2) :: H19)⟩ := hB
        refine wlVal (opLoadOne (v := (.slice A30 t13.q.length cap31)) rfl (hC.hcell 2 rfl (o := 68) (by simp [Word.cells, Stand.cells, Wd.cells, Mark.cells])) one33) rfl ?_
        obtain ⟨G, hg34, hC, hB, hF33⟩ := freezeBox (cs := d.cells) hC (Nat.le_refl _) hB (i := 0) rfl (cover hp22 rfl rfl)
        replace hn6 := hn6.mono hg34; replace hM7 := hM7.mono hg34; replace hM24 := hM24.mono hg34; replace hM25 := hM25.mono hg34; replace hR23 := hR23.mono hg34; replace hq26 := hq26.mono hg34
        replace hsil := hsil.mono hg34
        refine wlVal (opMakeFunc (fun a ha => ha.evals (xs := []) rfl) (fun a ha => ha.evals (xs := [.tmp 7]) rfl)) rfl ?_
        refine wlCallP (bl := []) (o := r18.oq) (r := []) hC hB rfl co35 rfl rfl (delf_ret _ _ hC.holds _ t13.q _ hq26 (Bxs.mine (bl := []) (r := []) hB) 36 [(.pointer (some ⟨b11, 0, none⟩))] (fun f_x0 => decide (f_x0.dig = d)) co36 (fun G w f_x0 hg hw  => prop1_ret G w hw f_x0 _ d (hF33.mono hg) ) (by have q1 := List.length_filter_le (fun a => !decide (a.dig = d)) t13.q; have q2 := hok.q4 _ _ hf12; omega)) ?_; rintro v40 G o37 w hg39 hk hC hB ⟨A35, cap36, rfl, hO38⟩
        replace hn6 := hn6.mono hg39; replace hM7 := hM7.mono hg39; replace hM24 := hM24.mono hg39; replace hM25 := hM25.mono hg39; replace hR23 := hR23.mono hg39
        replace hsil := hsil.mono hg39
        replace hF33 := hF33.mono hg39
        replace hB : Bxs G w w0.heap.size ([] ++ (Option.toList o37 ++ [])) ⟨(List.map (·.1) ((bs, .cells [(.int .i64 s.crew.faults), (.slice A9 s.crew.nodes.length cap10), (.int .i64 s.low), (.map (some l2))].toArray 70 (0, 0)) :: (l2, om3) :: H5)), ((bs, .cells [(.int .i64 s.crew.faults), (.slice A9 s.crew.nodes.length cap10), (.int .i64 s.low), (.map (some l2))].toArray 70 (0, 0)) :: (l2, om3) :: (r18.p, .cells ((.int .i64 v) :: (d.cells ++ ((.int .i64 t13.prep.view) :: (t13.prep.dig.cells ++ ((.map (some r18.m1)) :: ((.map (some r18.m2)) :: ((.slice A30 t13.q.length cap31) :: []))))))).toArray 66 (0, 0)) :: (r18.m1, r18.o1) :: (r18.m2, r18.o2) :: H19)⟩ := hB
        refine wlVal (opAssign rfl) rfl ?_
        refine wlThen ?_
        refine wcSeq ?_
        refine wcSeq ?_
        refine wcRegion ?_
        refine wlVal (opMove rfl) rfl ?_
        refine wlVal (opLen rfl isl33) rfl ?_
        refine wlVal (opGeq rfl rfl) rfl ?_
        refine wlThen ?_
        cases h41 : decide (4 ≤ (((((t13.q.filter (fun dz_ => !(fun f_x0 => decide (f_x0.dig = d)) dz_)))).length : Nat) : Int))
        · skip
          refine wcCondF rfl ?_
          refine wcSkip ?_
          refine wcOf ?_
          refine wcSeq ?_
          refine wcRegion ?_
          refine wlVal (opMove rfl) rfl ?_
          refine wlVal (opMove rfl) rfl ?_
          refine wlVal (opMove rfl) rfl ?_
          refine wlVal (opLoadRow (cs := d.cells) rfl (RowG.range hC.holds (hF33.part (i := 0) (m := 32) (by simp [Word.cells, Stand.cells, Wd.cells, Mark.cells]))) row38 (by simp [Word.cells, Stand.cells, Wd.cells, Mark.cells])) rfl ?_
          refine wlVal (opMove rfl) rfl ?_
          refine wlVal (opBuild (ps := [(0, .tmp 56), (1, .tmp 57), (2, .tmp 58)]) (cs := ((.int .i64 k) :: (d.cells ++ ((.int .i64 v) :: [])))) so43 zero43 rfl rfl (by first | (simp [buildCells, Value.cells]; done) | simp [buildCells, Value.cells, Word.cells, Stand.cells, Wd.cells, Mark.cells])) rfl ?_
          refine wlBuildSlice (α := Stand) (ps := [(0, .tmp 59)]) (xs := [(Stand.mk k d v)]) (rows := [((.int .i64 k) :: (d.cells ++ ((.int .i64 v) :: [])))]) elo33 rfl rfl hC hB rfl rfl rfl ⟨rfl, trivial⟩ rfl ?_; intro b42 G w hk hC hB hs43
          replace hn6 := hn6.mono hk.gle; replace hM7 := hM7.mono hk.gle; replace hM24 := hM24.mono hk.gle; replace hM25 := hM25.mono hk.gle; replace hR23 := hR23.mono hk.gle; replace hO38 := hO38.mono hk.gle
          replace hsil := hsil.mono hk.gle
          replace hF33 := hF33.mono hk.gle
          refine wlAppend (α := Stand) (bl := []) (o := o37) (r := []) elo33 hC hB rfl rfl hO38 hs43 (by have q1 := List.length_filter_le (fun a => !decide (a.dig = d)) t13.q; have q2 := hok.q4 _ _ hf12; simp; omega) rfl rfl ?_; intro A44 cap45 o46 w hC hB hO47
          refine wlVal (opNilCheck rfl) rfl ?_
          refine wlVal (opFieldAddr rfl fo66_4) rfl ?_
          obtain ⟨hC, hB⟩ := unhold hC hB (i := 2) rfl
          refine wlStore 0 (vs := [(.slice A44 (((((t13.q.filter (fun dz_ => !(fun f_x0 => decide (f_x0.dig = d)) dz_))) ++ [(Stand.mk k d v)])).length) cap45)]) (cs := ((.int .i64 v) :: (d.cells ++ ((.int .i64 t13.prep.view) :: (t13.prep.dig.cells ++ ((.map (some r18.m1)) :: ((.map (some r18.m2)) :: ((.slice A30 t13.q.length cap31) :: [])))))))) (cs' := ((.int .i64 v) :: (d.cells ++ ((.int .i64 t13.prep.view) :: (t13.prep.dig.cells ++ ((.map (some r18.m1)) :: ((.map (some r18.m2)) :: ((.slice A44 (((((t13.q.filter (fun dz_ => !(fun f_x0 => decide (f_x0.dig = d)) dz_))) ++ [(Stand.mk k d v)])).length) cap45) :: [])))))))) hC hB rfl rfl rfl sz33 rfl rfl rfl (by simp [Word.cells, Stand.cells, Wd.cells, Mark.cells]) (by simp [Word.cells, Stand.cells, Wd.cells, Mark.cells]) rfl ?_; intro w hC hB
          obtain ⟨hC, hB⟩ := hold hC hB (i := 0) rfl
          replace hC : Cx w0 G0 G w ⟨(List.map (·.1) ((bs, .cells [(.int .i64 s.crew.faults), (.slice A9 s.crew.nodes.length cap10), (.int .i64 s.low), (.map (some l2))].toArray 70 (0, 0)) :: (l2, om3) :: H5)), ((r18.p, .cells ((.int .i64 v) :: (d.cells ++ ((.int .i64 t13.prep.view) :: (t13.prep.dig.cells ++ ((.map (some r18.m1)) :: ((.map (some r18.m2)) :: ((.slice A44 (((((t13.q.filter (fun dz_ => !(fun f_x0 => decide (f_x0.dig = d)) dz_))) ++ [(Stand.mk k d v)])).length) cap45) :: []))))))).toArray 66 (0, 0)) :: (bs, .cells [(.int .i64 s.crew.faults), (.slice A9 s.crew.nodes.length cap10), (.int .i64 s.low), (.map (some l2))].toArray 70 (0, 0)) :: (l2, om3) :: (r18.m1, r18.o1) :: (r18.m2, r18.o2) :: H19)⟩ := hC
          replace hB : Bxs G w w0.heap.size ([] ++ (Option.toList o46 ++ [])) ⟨(List.map (·.1) ((bs, .cells [(.int .i64 s.crew.faults), (.slice A9 s.crew.nodes.length cap10), (.int .i64 s.low), (.map (some l2))].toArray 70 (0, 0)) :: (l2, om3) :: H5)), ((r18.p, .cells ((.int .i64 v) :: (d.cells ++ ((.int .i64 t13.prep.view) :: (t13.prep.dig.cells ++ ((.map (some r18.m1)) :: ((.map (some r18.m2)) :: ((.slice A44 (((((t13.q.filter (fun dz_ => !(fun f_x0 => decide (f_x0.dig = d)) dz_))) ++ [(Stand.mk k d v)])).length) cap45) :: []))))))).toArray 66 (0, 0)) :: (bs, .cells [(.int .i64 s.crew.faults), (.slice A9 s.crew.nodes.length cap10), (.int .i64 s.low), (.map (some l2))].toArray 70 (0, 0)) :: (l2, om3) :: (r18.m1, r18.o1) :: (r18.m2, r18.o2) :: H19)⟩ := hB
          replace hC := hC.permH (List.perm_middle (l₁ := [(bs, Obj.cells [(.int .i64 s.crew.faults), (.slice A9 s.crew.nodes.length cap10), (.int .i64 s.low), (.map (some l2))].toArray 70 (0, 0)), (l2, om3)]) (l₂ := ((r18.m1, r18.o1) :: (r18.m2, r18.o2) :: H19))).symm
          replace hB := hB.permH (List.perm_middle (l₁ := [(bs, Obj.cells [(.int .i64 s.crew.faults), (.slice A9 s.crew.nodes.length cap10), (.int .i64 s.low), (.map (some l2))].toArray 70 (0, 0)), (l2, om3)]) (l₂ := ((r18.m1, r18.o1) :: (r18.m2, r18.o2) :: H19))).symm
          replace hC : Cx w0 G0 G w ⟨(List.map (·.1) ((bs, .cells [(.int .i64 s.crew.faults), (.slice A9 s.crew.nodes.length cap10), (.int .i64 s.low), (.map (some l2))].toArray 70 (0, 0)) :: (l2, om3) :: H5)), ((bs, .cells [(.int .i64 s.crew.faults), (.slice A9 s.crew.nodes.length cap10), (.int .i64 s.low), (.map (some l2))].toArray 70 (0, 0)) :: (l2, om3) :: (r18.p, .cells ((.int .i64 v) :: (d.cells ++ ((.int .i64 t13.prep.view) :: (t13.prep.dig.cells ++ ((.map (some r18.m1)) :: ((.map (some r18.m2)) :: ((.slice A44 (((((t13.q.filter (fun dz_ => !(fun f_x0 => decide (f_x0.dig = d)) dz_))) ++ [(Stand.mk k d v)])).length) cap45) :: []))))))).toArray 66 (0, 0)) :: (r18.m1, r18.o1) :: (r18.m2, r18.o2) :: H19)⟩ := hC
          replace hB : Bxs G w w0.heap.size ([] ++ (Option.toList o46 ++ [])) ⟨(List.map (·.1) ((bs, .cells [(.int .i64 s.crew.faults), (.slice A9 s.crew.nodes.length cap10), (.int .i64 s.low), (.map (some l2))].toArray 70 (0, 0)) :: (l2, om3) :: H5)), ((bs, .cells [(.int .i64 s.crew.faults), (.slice A9 s.crew.nodes.length cap10), (.int .i64 s.low), (.map (some l2))].toArray 70 (0, 0)) :: (l2, om3) :: (r18.p, .cells ((.int .i64 v) :: (d.cells ++ ((.int .i64 t13.prep.view) :: (t13.prep.dig.cells ++ ((.map (some r18.m1)) :: ((.map (some r18.m2)) :: ((.slice A44 (((((t13.q.filter (fun dz_ => !(fun f_x0 => decide (f_x0.dig = d)) dz_))) ++ [(Stand.mk k d v)])).length) cap45) :: []))))))).toArray 66 (0, 0)) :: (r18.m1, r18.o1) :: (r18.m2, r18.o2) :: H19)⟩ := hB
          refine wlThen ?_
          refine wcSeq ?_
          refine wcRegion ?_
          refine wlVal (opMove rfl) rfl ?_
          refine wlVal (opNilCheck rfl) rfl ?_
          refine wlVal (opFieldAddr rfl fo66_4) rfl ?_
          refine wlVal (opLoadOne (v := (.slice A44 (((((t13.q.filter (fun dz_ => !(fun f_x0 => decide (f_x0.dig = d)) dz_))) ++ [(Stand.mk k d v)])).length) cap45)) rfl (hC.hcell 2 rfl (o := 68) (by simp [Word.cells, Stand.cells, Wd.cells, Mark.cells])) one33) rfl ?_
          refine wlCallP (bl := []) (o := o46) (r := []) hC hB rfl co37 rfl rfl (sort_ret _ _ hC.holds _ ((((t13.q.filter (fun dz_ => !(fun f_x0 => decide (f_x0.dig = d)) dz_))) ++ [(Stand.mk k d v)])) _ hO47 (Bxs.mine (bl := []) (r := []) hB) 38 [] (fun f_x0 f_x1 => (ordS f_x0 f_x1)) co38 (fun G w f_x0 f_x1 hg hw  => order_ret G w hw f_x0 f_x1  ) (by simp) (by have q1 := List.length_filter_le (fun a => !decide (a.dig = d)) t13.q; have q2 := hok.q4 _ _ hf12; simp; omega)) ?_; rintro v51 G o48 w hg50 hk hC hB ⟨rfl, hO49⟩
          replace hn6 := hn6.mono hg50; replace hM7 := hM7.mono hg50; replace hM24 := hM24.mono hg50; replace hM25 := hM25.mono hg50; replace hR23 := hR23.mono hg50; replace hs43 := hs43.mono hg50
          replace hsil := hsil.mono hg50
          replace hF33 := hF33.mono hg50
          replace hB : Bxs G w w0.heap.size ([] ++ (Option.toList o48 ++ [])) ⟨(List.map (·.1) ((bs, .cells [(.int .i64 s.crew.faults), (.slice A9 s.crew.nodes.length cap10), (.int .i64 s.low), (.map (some l2))].toArray 70 (0, 0)) :: (l2, om3) :: H5)), ((bs, .cells [(.int .i64 s.crew.faults), (.slice A9 s.crew.nodes.length cap10), (.int .i64 s.low), (.map (some l2))].toArray 70 (0, 0)) :: (l2, om3) :: (r18.p, .cells ((.int .i64 v) :: (d.cells ++ ((.int .i64 t13.prep.view) :: (t13.prep.dig.cells ++ ((.map (some r18.m1)) :: ((.map (some r18.m2)) :: ((.slice A44 (((((t13.q.filter (fun dz_ => !(fun f_x0 => decide (f_x0.dig = d)) dz_))) ++ [(Stand.mk k d v)])).length) cap45) :: []))))))).toArray 66 (0, 0)) :: (r18.m1, r18.o1) :: (r18.m2, r18.o2) :: H19)⟩ := hB
          refine wlThen ?_
          refine wcSeq ?_
          refine wcRegion ?_
          refine wlVal (opMove rfl) rfl ?_
          refine wlVal (opMove rfl) rfl ?_
          obtain ⟨hC, hB⟩ := holdO (o := o48) (bl := []) (r := []) hC hB
          replace hC := hC.permH (List.perm_append_comm_assoc (ob o48) [(bs, Obj.cells [(Value.int .i64 s.crew.faults), (Value.slice A9 s.crew.nodes.length cap10), (Value.int .i64 s.low), (Value.map (some l2))].toArray 70 (0, 0)), (l2, om3), (r18.p, Obj.cells ((Value.int .i64 v) :: (d.cells ++ ((Value.int .i64 t13.prep.view) :: (t13.prep.dig.cells ++ ((Value.map (some r18.m1)) :: ((Value.map (some r18.m2)) :: ((Value.slice A44 (((((t13.q.filter (fun dz_ => !(fun f_x0 => decide (f_x0.dig = d)) dz_))) ++ [(Stand.mk k d v)])).length) cap45) :: []))))))).toArray 66 (0, 0)), (r18.m1, r18.o1), (r18.m2, r18.o2)] H19)
          replace hB := hB.permH (List.perm_append_comm_assoc (ob o48) [(bs, Obj.cells [(Value.int .i64 s.crew.faults), (Value.slice A9 s.crew.nodes.length cap10), (Value.int .i64 s.low), (Value.map (some l2))].toArray 70 (0, 0)), (l2, om3), (r18.p, Obj.cells ((Value.int .i64 v) :: (d.cells ++ ((Value.int .i64 t13.prep.view) :: (t13.prep.dig.cells ++ ((Value.map (some r18.m1)) :: ((Value.map (some r18.m2)) :: ((Value.slice A44 (((((t13.q.filter (fun dz_ => !(fun f_x0 => decide (f_x0.dig = d)) dz_))) ++ [(Stand.mk k d v)])).length) cap45) :: []))))))).toArray 66 (0, 0)), (r18.m1, r18.o1), (r18.m2, r18.o2)] H19)
          have hq52 : Ow G o48 43 (.slice A44 (((((t13.q.filter (fun dz_ => !(fun f_x0 => decide (f_x0.dig = d)) dz_))) ++ [(Stand.mk k d v)])).length) cap45) (((isortG (fun f_x0 f_x1 => (ordS f_x0 f_x1)) ((((t13.q.filter (fun dz_ => !(fun f_x0 => decide (f_x0.dig = d)) dz_))) ++ [(Stand.mk k d v)]))))) := by simpa using hO49
          have hl53 : (((isortG (fun f_x0 f_x1 => (ordS f_x0 f_x1)) ((((t13.q.filter (fun dz_ => !(fun f_x0 => decide (f_x0.dig = d)) dz_))) ++ [(Stand.mk k d v)]))))).length ≤ maxL := (by have q1 := List.length_filter_le (fun a => !decide (a.dig = d)) t13.q; have q2 := hok.q4 _ _ hf12; (try rw [isortG_len]); unfold maxL; simp; omega)
          replace hC : Cx w0 G0 G w ⟨(List.map (·.1) ((bs, .cells [(.int .i64 s.crew.faults), (.slice A9 s.crew.nodes.length cap10), (.int .i64 s.low), (.map (some l2))].toArray 70 (0, 0)) :: (l2, om3) :: H5)), ((bs, .cells [(.int .i64 s.crew.faults), (.slice A9 s.crew.nodes.length cap10), (.int .i64 s.low), (.map (some l2))].toArray 70 (0, 0)) :: (l2, om3) :: (r18.p, .cells ((.int .i64 v) :: (d.cells ++ ((.int .i64 t13.prep.view) :: (t13.prep.dig.cells ++ ((.map (some r18.m1)) :: ((.map (some r18.m2)) :: ((.slice A44 (((((t13.q.filter (fun dz_ => !(fun f_x0 => decide (f_x0.dig = d)) dz_))) ++ [(Stand.mk k d v)])).length) cap45) :: []))))))).toArray 66 (0, 0)) :: (r18.m1, r18.o1) :: (r18.m2, r18.o2) :: (ob o48 ++ H19))⟩ := hC
          replace hB : Bxs G w w0.heap.size [] ⟨(List.map (·.1) ((bs, .cells [(.int .i64 s.crew.faults), (.slice A9 s.crew.nodes.length cap10), (.int .i64 s.low), (.map (some l2))].toArray 70 (0, 0)) :: (l2, om3) :: H5)), ((bs, .cells [(.int .i64 s.crew.faults), (.slice A9 s.crew.nodes.length cap10), (.int .i64 s.low), (.map (some l2))].toArray 70 (0, 0)) :: (l2, om3) :: (r18.p, .cells ((.int .i64 v) :: (d.cells ++ ((.int .i64 t13.prep.view) :: (t13.prep.dig.cells ++ ((.map (some r18.m1)) :: ((.map (some r18.m2)) :: ((.slice A44 (((((t13.q.filter (fun dz_ => !(fun f_x0 => decide (f_x0.dig = d)) dz_))) ++ [(Stand.mk k d v)])).length) cap45) :: []))))))).toArray 66 (0, 0)) :: (r18.m1, r18.o1) :: (r18.m2, r18.o2) :: (ob o48 ++ H19))⟩ := hB
          refine wlCallW hC hB rfl co39 rfl rfl (look_ret _ _ hC.holds bs _ s k (SlotS.mk ((Wd.mk v d)) t13.prep t13.pre t13.com (((isortG (fun f_x0 f_x1 => (ordS f_x0 f_x1)) ((((t13.q.filter (fun dz_ => !(fun f_x0 => decide (f_x0.dig = d)) dz_))) ++ [(Stand.mk k d v)])))))) _ (fun x hx => ⟨(hC.held x hx).1, (hC.held x hx).2.1⟩) hC.hnd ⟨_, _, _, _, ⟨r18.p, r18.m1, r18.m2, ((.int .i64 v) :: (d.cells ++ ((.int .i64 t13.prep.view) :: (t13.prep.dig.cells ++ ((.map (some r18.m1)) :: ((.map (some r18.m2)) :: ((.slice A44 (((((t13.q.filter (fun dz_ => !(fun f_x0 => decide (f_x0.dig = d)) dz_))) ++ [(Stand.mk k d v)])).length) cap45) :: []))))))), r18.o1, r18.o2, (.slice A44 (((((t13.q.filter (fun dz_ => !(fun f_x0 => decide (f_x0.dig = d)) dz_))) ++ [(Stand.mk k d v)])).length) cap45), o48⟩, _, rfl, hn6, hM7, ⟨rfl, hM24, hM25, hq52, hl53⟩, rfl, hR23⟩  hsil) ?_; rintro v54 G O55 w hg hC hB ⟨hs56, rfl⟩
          replace hn6 := hn6.mono hg; replace hs43 := hs43.mono hg
          replace hsil := hsil.mono hg
          replace hF33 := hF33.mono hg
          obtain ⟨v57, l58, om59, D60, H61, rfl, hn62, hM63, hH64⟩ := hs56
          obtain ⟨A65, cap66, rfl⟩ := hn62.form
          replace hC : Cx w0 G0 G w ⟨(List.map (·.1) ((bs, .cells [(.int .i64 s.crew.faults), (.slice A9 s.crew.nodes.length cap10), (.int .i64 s.low), (.map (some l2))].toArray 70 (0, 0)) :: (l2, om3) :: H5)), ((bs, .cells [(.int .i64 (((SlS.mk s.crew s.low (upd s.f k (lookS s.crew (SlotS.mk ((Wd.mk v d)) t13.prep t13.pre t13.com (((isortG (fun f_x0 f_x1 => (ordS f_x0 f_x1)) ((((t13.q.filter (fun dz_ => !(fun f_x0 => decide (f_x0.dig = d)) dz_))) ++ [(Stand.mk k d v)])))))))))).crew.faults)), (.slice A65 ((((SlS.mk s.crew s.low (upd s.f k (lookS s.crew (SlotS.mk ((Wd.mk v d)) t13.prep t13.pre t13.com (((isortG (fun f_x0 f_x1 => (ordS f_x0 f_x1)) ((((t13.q.filter (fun dz_ => !(fun f_x0 => decide (f_x0.dig = d)) dz_))) ++ [(Stand.mk k d v)])))))))))).crew.nodes).length) cap66), (.int .i64 (((SlS.mk s.crew s.low (upd s.f k (lookS s.crew (SlotS.mk ((Wd.mk v d)) t13.prep t13.pre t13.com (((isortG (fun f_x0 f_x1 => (ordS f_x0 f_x1)) ((((t13.q.filter (fun dz_ => !(fun f_x0 => decide (f_x0.dig = d)) dz_))) ++ [(Stand.mk k d v)])))))))))).low)), (.map (some l58))].toArray 70 (0, 0)) :: (l58, om59) :: H61)⟩ := hC
          replace hB : Bxs G w w0.heap.size [] ⟨(List.map (·.1) ((bs, .cells [(.int .i64 s.crew.faults), (.slice A9 s.crew.nodes.length cap10), (.int .i64 s.low), (.map (some l2))].toArray 70 (0, 0)) :: (l2, om3) :: H5)), ((bs, .cells [(.int .i64 (((SlS.mk s.crew s.low (upd s.f k (lookS s.crew (SlotS.mk ((Wd.mk v d)) t13.prep t13.pre t13.com (((isortG (fun f_x0 f_x1 => (ordS f_x0 f_x1)) ((((t13.q.filter (fun dz_ => !(fun f_x0 => decide (f_x0.dig = d)) dz_))) ++ [(Stand.mk k d v)])))))))))).crew.faults)), (.slice A65 ((((SlS.mk s.crew s.low (upd s.f k (lookS s.crew (SlotS.mk ((Wd.mk v d)) t13.prep t13.pre t13.com (((isortG (fun f_x0 f_x1 => (ordS f_x0 f_x1)) ((((t13.q.filter (fun dz_ => !(fun f_x0 => decide (f_x0.dig = d)) dz_))) ++ [(Stand.mk k d v)])))))))))).crew.nodes).length) cap66), (.int .i64 (((SlS.mk s.crew s.low (upd s.f k (lookS s.crew (SlotS.mk ((Wd.mk v d)) t13.prep t13.pre t13.com (((isortG (fun f_x0 f_x1 => (ordS f_x0 f_x1)) ((((t13.q.filter (fun dz_ => !(fun f_x0 => decide (f_x0.dig = d)) dz_))) ++ [(Stand.mk k d v)])))))))))).low)), (.map (some l58))].toArray 70 (0, 0)) :: (l58, om59) :: H61)⟩ := hB
          refine wlThen ?_
          refine wcSeq ?_
          refine wcRegion ?_
          refine wlVal (opAssign rfl) rfl ?_
          refine wlThen ?_
          refine wcRet ?_
          exact fun ac_ ha => hQ _ _ _ (results1 ha rfl rfl) ha.df (endT hC ((bs, .cells [(.int .i64 (((SlS.mk s.crew s.low (upd s.f k (lookS s.crew (SlotS.mk ((Wd.mk v d)) t13.prep t13.pre t13.com (((isortG (fun f_x0 f_x1 => (ordS f_x0 f_x1)) ((((t13.q.filter (fun dz_ => !(fun f_x0 => decide (f_x0.dig = d)) dz_))) ++ [(Stand.mk k d v)])))))))))).crew.faults)), (.slice A65 ((((SlS.mk s.crew s.low (upd s.f k (lookS s.crew (SlotS.mk ((Wd.mk v d)) t13.prep t13.pre t13.com (((isortG (fun f_x0 f_x1 => (ordS f_x0 f_x1)) ((((t13.q.filter (fun dz_ => !(fun f_x0 => decide (f_x0.dig = d)) dz_))) ++ [(Stand.mk k d v)])))))))))).crew.nodes).length) cap66), (.int .i64 (((SlS.mk s.crew s.low (upd s.f k (lookS s.crew (SlotS.mk ((Wd.mk v d)) t13.prep t13.pre t13.com (((isortG (fun f_x0 f_x1 => (ordS f_x0 f_x1)) ((((t13.q.filter (fun dz_ => !(fun f_x0 => decide (f_x0.dig = d)) dz_))) ++ [(Stand.mk k d v)])))))))))).low)), (.map (some l58))].toArray 70 (0, 0)) :: (l58, om59) :: H61) ⟨[], List.Perm.of_eq (List.append_nil _).symm⟩ ⟨(by have e_ : (propI s v k d).1 = ((SlS.mk s.crew s.low (upd s.f k (lookS s.crew (SlotS.mk ((Wd.mk v d)) t13.prep t13.pre t13.com (((isortG (fun f_x0 f_x1 => (ordS f_x0 f_x1)) ((((t13.q.filter (fun dz_ => !(fun f_x0 => decide (f_x0.dig = d)) dz_))) ++ [(Stand.mk k d v)])))))))))) := (by simp only [propI, propS, propQ, hf12, h28, h29, h41, cond_true, cond_false, Bool.not_true, Bool.not_false, Bool.and_true, Bool.and_false, Bool.true_and, Bool.false_and, Bool.or_true, Bool.true_or, Bool.or_false, Bool.false_or, zne]); rw [e_]; exact ⟨_, _, _, _, _, rfl, hn62, hM63, hH64⟩), (by simp only [propI, hf12, h28, h29, h41, cond_true, cond_false, Bool.not_true, Bool.not_false, Bool.and_true, Bool.and_false, Bool.true_and, Bool.false_and, Bool.or_true, Bool.true_or, Bool.or_false, Bool.false_or, zne])⟩)
        · skip
          refine wcCondT rfl ?_
          refine wcRegion ?_
          refine wlVal (opMove rfl) rfl ?_
          have hO67 : Ow G o37 43 (.slice (if cap36 = 1 then A35 else Option.map (fun a => a.add (1 * 34)) A35) (((((t13.q.filter (fun dz_ => !(fun f_x0 => decide (f_x0.dig = d)) dz_)))).length - 1)) ((cap36 - 1))) ((List.drop 1 (((t13.q.filter (fun dz_ => !(fun f_x0 => decide (f_x0.dig = d)) dz_)))))) := Ow.dropO hO38 (Nat.lt_of_lt_of_le (by decide : 1 < 4) (Int.ofNat_le.1 (of_decide_eq_true h41)))
          refine wlVal (opSliceFrom (l := 1) slo33 rfl rfl (Nat.le_of_lt (Nat.lt_of_lt_of_le (by decide : 1 < 4) (Int.ofNat_le.1 (of_decide_eq_true h41))))) rfl ?_
          refine wlVal (opAssign rfl) rfl ?_
          refine wlThen ?_
          refine wcSeq ?_
          refine wcRegion ?_
          refine wlVal (opMove rfl) rfl ?_
          refine wlVal (opMove rfl) rfl ?_
          refine wlVal (opMove rfl) rfl ?_
          refine wlVal (opLoadRow (cs := d.cells) rfl (RowG.range hC.holds (hF33.part (i := 0) (m := 32) (by simp [Word.cells, Stand.cells, Wd.cells, Mark.cells]))) row38 (by simp [Word.cells, Stand.cells, Wd.cells, Mark.cells])) rfl ?_
          refine wlVal (opMove rfl) rfl ?_
          refine wlVal (opBuild (ps := [(0, .tmp 56), (1, .tmp 57), (2, .tmp 58)]) (cs := ((.int .i64 k) :: (d.cells ++ ((.int .i64 v) :: [])))) so43 zero43 rfl rfl (by first | (simp [buildCells, Value.cells]; done) | simp [buildCells, Value.cells, Word.cells, Stand.cells, Wd.cells, Mark.cells])) rfl ?_
          refine wlBuildSlice (α := Stand) (ps := [(0, .tmp 59)]) (xs := [(Stand.mk k d v)]) (rows := [((.int .i64 k) :: (d.cells ++ ((.int .i64 v) :: [])))]) elo33 rfl rfl hC hB rfl rfl rfl ⟨rfl, trivial⟩ rfl ?_; intro b68 G w hk hC hB hs69
          replace hn6 := hn6.mono hk.gle; replace hM7 := hM7.mono hk.gle; replace hM24 := hM24.mono hk.gle; replace hM25 := hM25.mono hk.gle; replace hR23 := hR23.mono hk.gle; replace hO67 := hO67.mono hk.gle
          replace hsil := hsil.mono hk.gle
          replace hF33 := hF33.mono hk.gle
          refine wlAppend (α := Stand) (bl := []) (o := o37) (r := []) elo33 hC hB rfl rfl hO67 hs69 (by have q1 := List.length_filter_le (fun a => !decide (a.dig = d)) t13.q; have q2 := hok.q4 _ _ hf12; simp; omega) rfl rfl ?_; intro A70 cap71 o72 w hC hB hO73
          refine wlVal (opNilCheck rfl) rfl ?_
          refine wlVal (opFieldAddr rfl fo66_4) rfl ?_
          obtain ⟨hC, hB⟩ := unhold hC hB (i := 2) rfl
          refine wlStore 0 (vs := [(.slice A70 ((((List.drop 1 (((t13.q.filter (fun dz_ => !(fun f_x0 => decide (f_x0.dig = d)) dz_))))) ++ [(Stand.mk k d v)])).length) cap71)]) (cs := ((.int .i64 v) :: (d.cells ++ ((.int .i64 t13.prep.view) :: (t13.prep.dig.cells ++ ((.map (some r18.m1)) :: ((.map (some r18.m2)) :: ((.slice A30 t13.q.length cap31) :: [])))))))) (cs' := ((.int .i64 v) :: (d.cells ++ ((.int .i64 t13.prep.view) :: (t13.prep.dig.cells ++ ((.map (some r18.m1)) :: ((.map (some r18.m2)) :: ((.slice A70 ((((List.drop 1 (((t13.q.filter (fun dz_ => !(fun f_x0 => decide (f_x0.dig = d)) dz_))))) ++ [(Stand.mk k d v)])).length) cap71) :: [])))))))) hC hB rfl rfl rfl sz33 rfl rfl rfl (by simp [Word.cells, Stand.cells, Wd.cells, Mark.cells]) (by simp [Word.cells, Stand.cells, Wd.cells, Mark.cells]) rfl ?_; intro w hC hB
          obtain ⟨hC, hB⟩ := hold hC hB (i := 0) rfl
          replace hC : Cx w0 G0 G w ⟨(List.map (·.1) ((bs, .cells [(.int .i64 s.crew.faults), (.slice A9 s.crew.nodes.length cap10), (.int .i64 s.low), (.map (some l2))].toArray 70 (0, 0)) :: (l2, om3) :: H5)), ((r18.p, .cells ((.int .i64 v) :: (d.cells ++ ((.int .i64 t13.prep.view) :: (t13.prep.dig.cells ++ ((.map (some r18.m1)) :: ((.map (some r18.m2)) :: ((.slice A70 ((((List.drop 1 (((t13.q.filter (fun dz_ => !(fun f_x0 => decide (f_x0.dig = d)) dz_))))) ++ [(Stand.mk k d v)])).length) cap71) :: []))))))).toArray 66 (0, 0)) :: (bs, .cells [(.int .i64 s.crew.faults), (.slice A9 s.crew.nodes.length cap10), (.int .i64 s.low), (.map (some l2))].toArray 70 (0, 0)) :: (l2, om3) :: (r18.m1, r18.o1) :: (r18.m2, r18.o2) :: H19)⟩ := hC
          replace hB : Bxs G w w0.heap.size ([] ++ (Option.toList o72 ++ [])) ⟨(List.map (·.1) ((bs, .cells [(.int .i64 s.crew.faults), (.slice A9 s.crew.nodes.length cap10), (.int .i64 s.low), (.map (some l2))].toArray 70 (0, 0)) :: (l2, om3) :: H5)), ((r18.p, .cells ((.int .i64 v) :: (d.cells ++ ((.int .i64 t13.prep.view) :: (t13.prep.dig.cells ++ ((.map (some r18.m1)) :: ((.map (some r18.m2)) :: ((.slice A70 ((((List.drop 1 (((t13.q.filter (fun dz_ => !(fun f_x0 => decide (f_x0.dig = d)) dz_))))) ++ [(Stand.mk k d v)])).length) cap71) :: []))))))).toArray 66 (0, 0)) :: (bs, .cells [(.int .i64 s.crew.faults), (.slice A9 s.crew.nodes.length cap10), (.int .i64 s.low), (.map (some l2))].toArray 70 (0, 0)) :: (l2, om3) :: (r18.m1, r18.o1) :: (r18.m2, r18.o2) :: H19)⟩ := hB
          replace hC := hC.permH (List.perm_middle (l₁ := [(bs, Obj.cells [(.int .i64 s.crew.faults), (.slice A9 s.crew.nodes.length cap10), (.int .i64 s.low), (.map (some l2))].toArray 70 (0, 0)), (l2, om3)]) (l₂ := ((r18.m1, r18.o1) :: (r18.m2, r18.o2) :: H19))).symm
          replace hB := hB.permH (List.perm_middle (l₁ := [(bs, Obj.cells [(.int .i64 s.crew.faults), (.slice A9 s.crew.nodes.length cap10), (.int .i64 s.low), (.map (some l2))].toArray 70 (0, 0)), (l2, om3)]) (l₂ := ((r18.m1, r18.o1) :: (r18.m2, r18.o2) :: H19))).symm
          replace hC : Cx w0 G0 G w ⟨(List.map (·.1) ((bs, .cells [(.int .i64 s.crew.faults), (.slice A9 s.crew.nodes.length cap10), (.int .i64 s.low), (.map (some l2))].toArray 70 (0, 0)) :: (l2, om3) :: H5)), ((bs, .cells [(.int .i64 s.crew.faults), (.slice A9 s.crew.nodes.length cap10), (.int .i64 s.low), (.map (some l2))].toArray 70 (0, 0)) :: (l2, om3) :: (r18.p, .cells ((.int .i64 v) :: (d.cells ++ ((.int .i64 t13.prep.view) :: (t13.prep.dig.cells ++ ((.map (some r18.m1)) :: ((.map (some r18.m2)) :: ((.slice A70 ((((List.drop 1 (((t13.q.filter (fun dz_ => !(fun f_x0 => decide (f_x0.dig = d)) dz_))))) ++ [(Stand.mk k d v)])).length) cap71) :: []))))))).toArray 66 (0, 0)) :: (r18.m1, r18.o1) :: (r18.m2, r18.o2) :: H19)⟩ := hC
          replace hB : Bxs G w w0.heap.size ([] ++ (Option.toList o72 ++ [])) ⟨(List.map (·.1) ((bs, .cells [(.int .i64 s.crew.faults), (.slice A9 s.crew.nodes.length cap10), (.int .i64 s.low), (.map (some l2))].toArray 70 (0, 0)) :: (l2, om3) :: H5)), ((bs, .cells [(.int .i64 s.crew.faults), (.slice A9 s.crew.nodes.length cap10), (.int .i64 s.low), (.map (some l2))].toArray 70 (0, 0)) :: (l2, om3) :: (r18.p, .cells ((.int .i64 v) :: (d.cells ++ ((.int .i64 t13.prep.view) :: (t13.prep.dig.cells ++ ((.map (some r18.m1)) :: ((.map (some r18.m2)) :: ((.slice A70 ((((List.drop 1 (((t13.q.filter (fun dz_ => !(fun f_x0 => decide (f_x0.dig = d)) dz_))))) ++ [(Stand.mk k d v)])).length) cap71) :: []))))))).toArray 66 (0, 0)) :: (r18.m1, r18.o1) :: (r18.m2, r18.o2) :: H19)⟩ := hB
          refine wlThen ?_
          refine wcSeq ?_
          refine wcRegion ?_
          refine wlVal (opMove rfl) rfl ?_
          refine wlVal (opNilCheck rfl) rfl ?_
          refine wlVal (opFieldAddr rfl fo66_4) rfl ?_
          refine wlVal (opLoadOne (v := (.slice A70 ((((List.drop 1 (((t13.q.filter (fun dz_ => !(fun f_x0 => decide (f_x0.dig = d)) dz_))))) ++ [(Stand.mk k d v)])).length) cap71)) rfl (hC.hcell 2 rfl (o := 68) (by simp [Word.cells, Stand.cells, Wd.cells, Mark.cells])) one33) rfl ?_
          refine wlCallP (bl := []) (o := o72) (r := []) hC hB rfl co37 rfl rfl (sort_ret _ _ hC.holds _ (((List.drop 1 (((t13.q.filter (fun dz_ => !(fun f_x0 => decide (f_x0.dig = d)) dz_))))) ++ [(Stand.mk k d v)])) _ hO73 (Bxs.mine (bl := []) (r := []) hB) 38 [] (fun f_x0 f_x1 => (ordS f_x0 f_x1)) co38 (fun G w f_x0 f_x1 hg hw  => order_ret G w hw f_x0 f_x1  ) (by simp) (by have q1 := List.length_filter_le (fun a => !decide (a.dig = d)) t13.q; have q2 := hok.q4 _ _ hf12; simp; omega)) ?_; rintro v77 G o74 w hg76 hk hC hB ⟨rfl, hO75⟩
          replace hn6 := hn6.mono hg76; replace hM7 := hM7.mono hg76; replace hM24 := hM24.mono hg76; replace hM25 := hM25.mono hg76; replace hR23 := hR23.mono hg76; replace hs69 := hs69.mono hg76
          replace hsil := hsil.mono hg76
          replace hF33 := hF33.mono hg76
          replace hB : Bxs G w w0.heap.size ([] ++ (Option.toList o74 ++ [])) ⟨(List.map (·.1) ((bs, .cells [(.int .i64 s.crew.faults), (.slice A9 s.crew.nodes.length cap10), (.int .i64 s.low), (.map (some l2))].toArray 70 (0, 0)) :: (l2, om3) :: H5)), ((bs, .cells [(.int .i64 s.crew.faults), (.slice A9 s.crew.nodes.length cap10), (.int .i64 s.low), (.map (some l2))].toArray 70 (0, 0)) :: (l2, om3) :: (r18.p, .cells ((.int .i64 v) :: (d.cells ++ ((.int .i64 t13.prep.view) :: (t13.prep.dig.cells ++ ((.map (some r18.m1)) :: ((.map (some r18.m2)) :: ((.slice A70 ((((List.drop 1 (((t13.q.filter (fun dz_ => !(fun f_x0 => decide (f_x0.dig = d)) dz_))))) ++ [(Stand.mk k d v)])).length) cap71) :: []))))))).toArray 66 (0, 0)) :: (r18.m1, r18.o1) :: (r18.m2, r18.o2) :: H19)⟩ := hB
          refine wlThen ?_
          refine wcSeq ?_
          refine wcRegion ?_
          refine wlVal (opMove rfl) rfl ?_
          refine wlVal (opMove rfl) rfl ?_
          obtain ⟨hC, hB⟩ := holdO (o := o74) (bl := []) (r := []) hC hB
          replace hC := hC.permH (List.perm_append_comm_assoc (ob o74) [(bs, Obj.cells [(Value.int .i64 s.crew.faults), (Value.slice A9 s.crew.nodes.length cap10), (Value.int .i64 s.low), (Value.map (some l2))].toArray 70 (0, 0)), (l2, om3), (r18.p, Obj.cells ((Value.int .i64 v) :: (d.cells ++ ((Value.int .i64 t13.prep.view) :: (t13.prep.dig.cells ++ ((Value.map (some r18.m1)) :: ((Value.map (some r18.m2)) :: ((Value.slice A70 ((((List.drop 1 (((t13.q.filter (fun dz_ => !(fun f_x0 => decide (f_x0.dig = d)) dz_))))) ++ [(Stand.mk k d v)])).length) cap71) :: []))))))).toArray 66 (0, 0)), (r18.m1, r18.o1), (r18.m2, r18.o2)] H19)
          replace hB := hB.permH (List.perm_append_comm_assoc (ob o74) [(bs, Obj.cells [(Value.int .i64 s.crew.faults), (Value.slice A9 s.crew.nodes.length cap10), (Value.int .i64 s.low), (Value.map (some l2))].toArray 70 (0, 0)), (l2, om3), (r18.p, Obj.cells ((Value.int .i64 v) :: (d.cells ++ ((Value.int .i64 t13.prep.view) :: (t13.prep.dig.cells ++ ((Value.map (some r18.m1)) :: ((Value.map (some r18.m2)) :: ((Value.slice A70 ((((List.drop 1 (((t13.q.filter (fun dz_ => !(fun f_x0 => decide (f_x0.dig = d)) dz_))))) ++ [(Stand.mk k d v)])).length) cap71) :: []))))))).toArray 66 (0, 0)), (r18.m1, r18.o1), (r18.m2, r18.o2)] H19)
          have hq78 : Ow G o74 43 (.slice A70 ((((List.drop 1 (((t13.q.filter (fun dz_ => !(fun f_x0 => decide (f_x0.dig = d)) dz_))))) ++ [(Stand.mk k d v)])).length) cap71) (((isortG (fun f_x0 f_x1 => (ordS f_x0 f_x1)) (((List.drop 1 (((t13.q.filter (fun dz_ => !(fun f_x0 => decide (f_x0.dig = d)) dz_))))) ++ [(Stand.mk k d v)]))))) := by simpa using hO75
          have hl79 : (((isortG (fun f_x0 f_x1 => (ordS f_x0 f_x1)) (((List.drop 1 (((t13.q.filter (fun dz_ => !(fun f_x0 => decide (f_x0.dig = d)) dz_))))) ++ [(Stand.mk k d v)]))))).length ≤ maxL := (by have q1 := List.length_filter_le (fun a => !decide (a.dig = d)) t13.q; have q2 := hok.q4 _ _ hf12; (try rw [isortG_len]); unfold maxL; simp; omega)
          replace hC : Cx w0 G0 G w ⟨(List.map (·.1) ((bs, .cells [(.int .i64 s.crew.faults), (.slice A9 s.crew.nodes.length cap10), (.int .i64 s.low), (.map (some l2))].toArray 70 (0, 0)) :: (l2, om3) :: H5)), ((bs, .cells [(.int .i64 s.crew.faults), (.slice A9 s.crew.nodes.length cap10), (.int .i64 s.low), (.map (some l2))].toArray 70 (0, 0)) :: (l2, om3) :: (r18.p, .cells ((.int .i64 v) :: (d.cells ++ ((.int .i64 t13.prep.view) :: (t13.prep.dig.cells ++ ((.map (some r18.m1)) :: ((.map (some r18.m2)) :: ((.slice A70 ((((List.drop 1 (((t13.q.filter (fun dz_ => !(fun f_x0 => decide (f_x0.dig = d)) dz_))))) ++ [(Stand.mk k d v)])).length) cap71) :: []))))))).toArray 66 (0, 0)) :: (r18.m1, r18.o1) :: (r18.m2, r18.o2) :: (ob o74 ++ H19))⟩ := hC
          replace hB : Bxs G w w0.heap.size [] ⟨(List.map (·.1) ((bs, .cells [(.int .i64 s.crew.faults), (.slice A9 s.crew.nodes.length cap10), (.int .i64 s.low), (.map (some l2))].toArray 70 (0, 0)) :: (l2, om3) :: H5)), ((bs, .cells [(.int .i64 s.crew.faults), (.slice A9 s.crew.nodes.length cap10), (.int .i64 s.low), (.map (some l2))].toArray 70 (0, 0)) :: (l2, om3) :: (r18.p, .cells ((.int .i64 v) :: (d.cells ++ ((.int .i64 t13.prep.view) :: (t13.prep.dig.cells ++ ((.map (some r18.m1)) :: ((.map (some r18.m2)) :: ((.slice A70 ((((List.drop 1 (((t13.q.filter (fun dz_ => !(fun f_x0 => decide (f_x0.dig = d)) dz_))))) ++ [(Stand.mk k d v)])).length) cap71) :: []))))))).toArray 66 (0, 0)) :: (r18.m1, r18.o1) :: (r18.m2, r18.o2) :: (ob o74 ++ H19))⟩ := hB
          refine wlCallW hC hB rfl co39 rfl rfl (look_ret _ _ hC.holds bs _ s k (SlotS.mk ((Wd.mk v d)) t13.prep t13.pre t13.com (((isortG (fun f_x0 f_x1 => (ordS f_x0 f_x1)) (((List.drop 1 (((t13.q.filter (fun dz_ => !(fun f_x0 => decide (f_x0.dig = d)) dz_))))) ++ [(Stand.mk k d v)])))))) _ (fun x hx => ⟨(hC.held x hx).1, (hC.held x hx).2.1⟩) hC.hnd ⟨_, _, _, _, ⟨r18.p, r18.m1, r18.m2, ((.int .i64 v) :: (d.cells ++ ((.int .i64 t13.prep.view) :: (t13.prep.dig.cells ++ ((.map (some r18.m1)) :: ((.map (some r18.m2)) :: ((.slice A70 ((((List.drop 1 (((t13.q.filter (fun dz_ => !(fun f_x0 => decide (f_x0.dig = d)) dz_))))) ++ [(Stand.mk k d v)])).length) cap71) :: []))))))), r18.o1, r18.o2, (.slice A70 ((((List.drop 1 (((t13.q.filter (fun dz_ => !(fun f_x0 => decide (f_x0.dig = d)) dz_))))) ++ [(Stand.mk k d v)])).length) cap71), o74⟩, _, rfl, hn6, hM7, ⟨rfl, hM24, hM25, hq78, hl79⟩, rfl, hR23⟩  hsil) ?_; rintro v80 G O81 w hg hC hB ⟨hs82, rfl⟩
          replace hn6 := hn6.mono hg; replace hs69 := hs69.mono hg
          replace hsil := hsil.mono hg
          replace hF33 := hF33.mono hg
          obtain ⟨v83, l84, om85, D86, H87, rfl, hn88, hM89, hH90⟩ := hs82
          obtain ⟨A91, cap92, rfl⟩ := hn88.form
          replace hC : Cx w0 G0 G w ⟨(List.map (·.1) ((bs, .cells [(.int .i64 s.crew.faults), (.slice A9 s.crew.nodes.length cap10), (.int .i64 s.low), (.map (some l2))].toArray 70 (0, 0)) :: (l2, om3) :: H5)), ((bs, .cells [(.int .i64 (((SlS.mk s.crew s.low (upd s.f k (lookS s.crew (SlotS.mk ((Wd.mk v d)) t13.prep t13.pre t13.com (((isortG (fun f_x0 f_x1 => (ordS f_x0 f_x1)) (((List.drop 1 (((t13.q.filter (fun dz_ => !(fun f_x0 => decide (f_x0.dig = d)) dz_))))) ++ [(Stand.mk k d v)])))))))))).crew.faults)), (.slice A91 ((((SlS.mk s.crew s.low (upd s.f k (lookS s.crew (SlotS.mk ((Wd.mk v d)) t13.prep t13.pre t13.com (((isortG (fun f_x0 f_x1 => (ordS f_x0 f_x1)) (((List.drop 1 (((t13.q.filter (fun dz_ => !(fun f_x0 => decide (f_x0.dig = d)) dz_))))) ++ [(Stand.mk k d v)])))))))))).crew.nodes).length) cap92), (.int .i64 (((SlS.mk s.crew s.low (upd s.f k (lookS s.crew (SlotS.mk ((Wd.mk v d)) t13.prep t13.pre t13.com (((isortG (fun f_x0 f_x1 => (ordS f_x0 f_x1)) (((List.drop 1 (((t13.q.filter (fun dz_ => !(fun f_x0 => decide (f_x0.dig = d)) dz_))))) ++ [(Stand.mk k d v)])))))))))).low)), (.map (some l84))].toArray 70 (0, 0)) :: (l84, om85) :: H87)⟩ := hC
          replace hB : Bxs G w w0.heap.size [] ⟨(List.map (·.1) ((bs, .cells [(.int .i64 s.crew.faults), (.slice A9 s.crew.nodes.length cap10), (.int .i64 s.low), (.map (some l2))].toArray 70 (0, 0)) :: (l2, om3) :: H5)), ((bs, .cells [(.int .i64 (((SlS.mk s.crew s.low (upd s.f k (lookS s.crew (SlotS.mk ((Wd.mk v d)) t13.prep t13.pre t13.com (((isortG (fun f_x0 f_x1 => (ordS f_x0 f_x1)) (((List.drop 1 (((t13.q.filter (fun dz_ => !(fun f_x0 => decide (f_x0.dig = d)) dz_))))) ++ [(Stand.mk k d v)])))))))))).crew.faults)), (.slice A91 ((((SlS.mk s.crew s.low (upd s.f k (lookS s.crew (SlotS.mk ((Wd.mk v d)) t13.prep t13.pre t13.com (((isortG (fun f_x0 f_x1 => (ordS f_x0 f_x1)) (((List.drop 1 (((t13.q.filter (fun dz_ => !(fun f_x0 => decide (f_x0.dig = d)) dz_))))) ++ [(Stand.mk k d v)])))))))))).crew.nodes).length) cap92), (.int .i64 (((SlS.mk s.crew s.low (upd s.f k (lookS s.crew (SlotS.mk ((Wd.mk v d)) t13.prep t13.pre t13.com (((isortG (fun f_x0 f_x1 => (ordS f_x0 f_x1)) (((List.drop 1 (((t13.q.filter (fun dz_ => !(fun f_x0 => decide (f_x0.dig = d)) dz_))))) ++ [(Stand.mk k d v)])))))))))).low)), (.map (some l84))].toArray 70 (0, 0)) :: (l84, om85) :: H87)⟩ := hB
          refine wlThen ?_
          refine wcSeq ?_
          refine wcRegion ?_
          refine wlVal (opAssign rfl) rfl ?_
          refine wlThen ?_
          refine wcRet ?_
          exact fun ac_ ha => hQ _ _ _ (results1 ha rfl rfl) ha.df (endT hC ((bs, .cells [(.int .i64 (((SlS.mk s.crew s.low (upd s.f k (lookS s.crew (SlotS.mk ((Wd.mk v d)) t13.prep t13.pre t13.com (((isortG (fun f_x0 f_x1 => (ordS f_x0 f_x1)) (((List.drop 1 (((t13.q.filter (fun dz_ => !(fun f_x0 => decide (f_x0.dig = d)) dz_))))) ++ [(Stand.mk k d v)])))))))))).crew.faults)), (.slice A91 ((((SlS.mk s.crew s.low (upd s.f k (lookS s.crew (SlotS.mk ((Wd.mk v d)) t13.prep t13.pre t13.com (((isortG (fun f_x0 f_x1 => (ordS f_x0 f_x1)) (((List.drop 1 (((t13.q.filter (fun dz_ => !(fun f_x0 => decide (f_x0.dig = d)) dz_))))) ++ [(Stand.mk k d v)])))))))))).crew.nodes).length) cap92), (.int .i64 (((SlS.mk s.crew s.low (upd s.f k (lookS s.crew (SlotS.mk ((Wd.mk v d)) t13.prep t13.pre t13.com (((isortG (fun f_x0 f_x1 => (ordS f_x0 f_x1)) (((List.drop 1 (((t13.q.filter (fun dz_ => !(fun f_x0 => decide (f_x0.dig = d)) dz_))))) ++ [(Stand.mk k d v)])))))))))).low)), (.map (some l84))].toArray 70 (0, 0)) :: (l84, om85) :: H87) ⟨[], List.Perm.of_eq (List.append_nil _).symm⟩ ⟨(by have e_ : (propI s v k d).1 = ((SlS.mk s.crew s.low (upd s.f k (lookS s.crew (SlotS.mk ((Wd.mk v d)) t13.prep t13.pre t13.com (((isortG (fun f_x0 f_x1 => (ordS f_x0 f_x1)) (((List.drop 1 (((t13.q.filter (fun dz_ => !(fun f_x0 => decide (f_x0.dig = d)) dz_))))) ++ [(Stand.mk k d v)])))))))))) := (by simp only [propI, propS, propQ, hf12, h28, h29, h41, cond_true, cond_false, Bool.not_true, Bool.not_false, Bool.and_true, Bool.and_false, Bool.true_and, Bool.false_and, Bool.or_true, Bool.true_or, Bool.or_false, Bool.false_or, zne]); rw [e_]; exact ⟨_, _, _, _, _, rfl, hn88, hM89, hH90⟩), (by simp only [propI, hf12, h28, h29, h41, cond_true, cond_false, Bool.not_true, Bool.not_false, Bool.and_true, Bool.and_false, Bool.true_and, Bool.false_and, Bool.or_true, Bool.true_or, Bool.or_false, Bool.false_or, zne])⟩)
      · skip
        refine wcCondT rfl ?_
        refine wcSeq ?_
        refine wcRegion ?_
        refine wlVal (opMove rfl) rfl ?_
        refine wlVal (opAssign rfl) rfl ?_
        refine wlThen ?_
        refine wcRet ?_
        exact fun ac_ ha => hQ _ _ _ (results1 ha rfl rfl) ha.df (endT hC ((bs, .cells [(.int .i64 s.crew.faults), (.slice A9 s.crew.nodes.length cap10), (.int .i64 s.low), (.map (some l2))].toArray 70 (0, 0)) :: (l2, om3) :: (r18.p, .cells ((.int .i64 t13.last.view) :: (t13.last.dig.cells ++ ((.int .i64 t13.prep.view) :: (t13.prep.dig.cells ++ ((.map (some r18.m1)) :: ((.map (some r18.m2)) :: (r18.vq :: []))))))).toArray 66 (0, 0)) :: (r18.m1, r18.o1) :: (r18.m2, r18.o2) :: (ob r18.oq ++ H19)) ⟨[], List.Perm.of_eq (List.append_nil _).symm⟩ ⟨(by have e_ : (propI s v k d).1 = (SlS.mk s.crew s.low (upd s.f k t13)) := (by rw [show (SlS.mk s.crew s.low (upd s.f k t13)) = s from slS_self hf12]; simp only [propI, propS, propQ, hf12, h28, h29, cond_true, cond_false, Bool.not_true, Bool.not_false, Bool.and_true, Bool.and_false, Bool.true_and, Bool.false_and, Bool.or_true, Bool.true_or, Bool.or_false, Bool.false_or, zne]); rw [e_]; exact ⟨_, _, _, _, _, rfl, hn6, hM7, (hR23 _ ⟨r18.p, r18.m1, r18.m2, ((Value.int .i64 t13.last.view) :: (t13.last.dig.cells ++ ((Value.int .i64 t13.prep.view) :: (t13.prep.dig.cells ++ ((Value.map (some r18.m1)) :: ((Value.map (some r18.m2)) :: (r18.vq :: []))))))), r18.o1, r18.o2, r18.vq, r18.oq⟩ t13 (fun _ _ h => h) rfl ⟨rfl, hM24, hM25, hq26, hS21.ql⟩)⟩), (by simp only [propI, hf12, h28, h29, cond_true, cond_false, Bool.not_true, Bool.not_false, Bool.and_true, Bool.and_false, Bool.true_and, Bool.false_and, Bool.or_true, Bool.true_or, Bool.or_false, Bool.false_or, zne])⟩)

theorem fill_ret (G0 : Gh) (w0 : World) (hw : Holds G0 w0) (bs : Nat) (Os : List (Nat × Obj)) (s : SlS) (hOs : ∀ x ∈ Os, w0.heap[x.1]? = some x.2 ∧ G0 x.1 = none) (hds : (Os.map (·.1)).Nodup) (hs : SlO G0 bs Os s) (hsil : RowG G0 0 0 silence.cells) (hlow : 0 ≤ s.low ∧ s.low ≤ 9007199254740983) :
    RetT Tryd.prog 46 #[.pointer (some ⟨bs, 0, none⟩)] G0 w0 (List.map (·.1) Os) (fun G O v => SlO G bs O (SlS.mk s.crew s.low (fillN s.f (s.low + 1) 8)) ∧ v = .tuple #[]) := by
  have hC := Cx.refl hw
  have hB : Bxs G0 w0 w0.heap.size [] := Bxs.nil _ _ _
  obtain ⟨v1, l2, om3, D4, H5, rfl, hn6, hM7, hH8⟩ := hs
  obtain ⟨A9, cap10, rfl⟩ := hn6.form
  have hC := Cx.reflH ((bs, .cells [(.int .i64 s.crew.faults), (.slice A9 s.crew.nodes.length cap10), (.int .i64 s.low), (.map (some l2))].toArray 70 (0, 0)) :: (l2, om3) :: H5) (List.map (·.1) ((bs, .cells [(.int .i64 s.crew.faults), (.slice A9 s.crew.nodes.length cap10), (.int .i64 s.low), (.map (some l2))].toArray 70 (0, 0)) :: (l2, om3) :: H5)) hw (fun x hx => ⟨(hOs x hx).1, (hOs x hx).2, List.mem_map.2 ⟨x, hx, rfl⟩⟩) hds
  have hB : Bxs G0 w0 w0.heap.size [] ⟨(List.map (·.1) ((bs, .cells [(.int .i64 s.crew.faults), (.slice A9 s.crew.nodes.length cap10), (.int .i64 s.low), (.map (some l2))].toArray 70 (0, 0)) :: (l2, om3) :: H5)), ((bs, .cells [(.int .i64 s.crew.faults), (.slice A9 s.crew.nodes.length cap10), (.int .i64 s.low), (.map (some l2))].toArray 70 (0, 0)) :: (l2, om3) :: H5)⟩ := Bxs.nil _ _ _
  refine callsOfN Tryd.func46 rfl _ Tryd.ntmps46 rfl _ (argsCons argsNil (t := 0) rfl) ?_; intro Q0 hQ hN
  refine wcSeq ?_
  refine wcRegion ?_
  refine wlVal (opMove rfl) rfl ?_
  refine wlVal (opNilCheck rfl) rfl ?_
  refine wlVal (opFieldAddr rfl fo70_1) rfl ?_
  refine wlVal (opLoadOne (v := (.int .i64 s.low)) rfl (hC.hcell 0 rfl (o := 2) rfl) one3) rfl ?_
  refine wlVal (opAdd rfl rfl) rfl ?_
  refine wlVal (opAssign rfl) rfl ?_
  refine wlThen ?_
  refine wcBlock ?_
  refine WC.sub (wrInd (ι := Int × Nat × (List (Nat × Obj)) × (Int → Option SlotS)) (fun i => match i with | (k, i, Oq, Fq) => 8 - i) (fun i G w => match i with | (k, i, Oq, Fq) => Cx w0 G0 G w ⟨(List.map (·.1) ((bs, .cells [(.int .i64 s.crew.faults), (.slice A9 s.crew.nodes.length cap10), (.int .i64 s.low), (.map (some l2))].toArray 70 (0, 0)) :: (l2, om3) :: H5)), (Oq)⟩ ∧ Bxs G w w0.heap.size [] ⟨(List.map (·.1) ((bs, .cells [(.int .i64 s.crew.faults), (.slice A9 s.crew.nodes.length cap10), (.int .i64 s.low), (.map (some l2))].toArray 70 (0, 0)) :: (l2, om3) :: H5)), (Oq)⟩ ∧ Sl G (.slice A9 s.crew.nodes.length cap10) s.crew.nodes ∧ RowG G 0 0 silence.cells ∧ SlO G bs Oq (SlS.mk s.crew s.low Fq) ∧ i ≤ 8 ∧ k = s.low + 1 + i ∧ Fq = fillN s.f (s.low + 1) i) (fun i => match i with | (k, i, Oq, Fq) => ((Env.nil.put 0 (.pointer (some ⟨bs, 0, none⟩))).put 2 (.int .i64 k))) ?_ (IntKind.wrap .i64 (s.low + 1), 0, ((bs, .cells [(.int .i64 s.crew.faults), (.slice A9 s.crew.nodes.length cap10), (.int .i64 s.low), (.map (some l2))].toArray 70 (0, 0)) :: (l2, om3) :: H5), s.f) _ _ ⟨hC, hB, hn6, hsil, ⟨_, _, _, _, _, rfl, hn6, hM7, hH8⟩, (Nat.zero_le _), (lowk0 hlow), rfl⟩) (fun _ ha => ((ha.start.cons ha (t := 0) rfl).cons ha (t := 2) rfl))
  rintro ⟨k, i, Oq, Fq⟩ G w N0 IH0 ⟨hC, hB, hn6, hsil, hWOq, hi, hkk, hFq⟩
  show WC _ _ _ _ ((Env.nil.put 0 (.pointer (some ⟨bs, 0, none⟩))).put 2 (.int .i64 k)) w
  obtain ⟨v11, l12, om13, D14, H15, rfl, hn16, hM17, hH18⟩ := hWOq
  obtain ⟨A19, cap20, rfl⟩ := hn16.form
  replace hC : Cx w0 G0 G w ⟨(List.map (·.1) ((bs, .cells [(.int .i64 s.crew.faults), (.slice A9 s.crew.nodes.length cap10), (.int .i64 s.low), (.map (some l2))].toArray 70 (0, 0)) :: (l2, om3) :: H5)), ((bs, .cells [(.int .i64 s.crew.faults), (.slice A19 s.crew.nodes.length cap20), (.int .i64 s.low), (.map (some l12))].toArray 70 (0, 0)) :: (l12, om13) :: H15)⟩ := hC
  replace hB : Bxs G w w0.heap.size [] ⟨(List.map (·.1) ((bs, .cells [(.int .i64 s.crew.faults), (.slice A9 s.crew.nodes.length cap10), (.int .i64 s.low), (.map (some l2))].toArray 70 (0, 0)) :: (l2, om3) :: H5)), ((bs, .cells [(.int .i64 s.crew.faults), (.slice A19 s.crew.nodes.length cap20), (.int .i64 s.low), (.map (some l12))].toArray 70 (0, 0)) :: (l12, om13) :: H15)⟩ := hB
  refine wcSeq ?_
  refine wcSeq ?_
  refine wcRegion ?_
  refine wlVal (opMove rfl) rfl ?_
  refine wlVal (opMove rfl) rfl ?_
  refine wlVal (opNilCheck rfl) rfl ?_
  refine wlVal (opFieldAddr rfl fo70_1) rfl ?_
  refine wlVal (opLoadOne (v := (.int .i64 s.low)) rfl (hC.hcell 0 rfl (o := 2) rfl) one3) rfl ?_
  refine wlVal (opAdd rfl rfl) rfl ?_
  refine wlVal (opLeq rfl rfl) rfl ?_
  refine wlThen ?_
  cases h21 : decide (k ≤ IntKind.wrap .i64 (s.low + 8))
  · skip
    refine wcCondF rfl ?_
    refine wcExit ?_
    exact fun ac_ ha => hN _ _ _ (results0 ha rfl) ha.df (endT hC ((bs, .cells [(.int .i64 s.crew.faults), (.slice A19 s.crew.nodes.length cap20), (.int .i64 s.low), (.map (some l12))].toArray 70 (0, 0)) :: (l12, om13) :: H15) ⟨[], List.Perm.of_eq (List.append_nil _).symm⟩ ⟨(by have e_ : (SlS.mk s.crew s.low (fillN s.f (s.low + 1) 8)) = (SlS.mk s.crew s.low Fq) := (by rw [fill_end hlow hi hkk hFq h21]); rw [e_]; exact ⟨_, _, _, _, _, rfl, hn16, hM17, hH18⟩), rfl⟩)
  · skip
    refine wcCondT rfl ?_
    refine wcSkip ?_
    refine wcOf ?_
    refine wcSeq ?_
    refine wcBlock ?_
    refine wcSeq ?_
    refine wcRegion ?_
    refine wlVal (opMove rfl) rfl ?_
    refine wlVal (opNilCheck rfl) rfl ?_
    refine wlVal (opFieldAddr rfl fo70_2) rfl ?_
    refine wlVal (opLoadOne (v := (.map (some l12))) rfl (hC.hcell 0 rfl (o := 3) rfl) one68) rfl ?_
    refine wlVal (opMove rfl) rfl ?_
    obtain ⟨v24, hv25, hr26⟩ := hM17.lookup (keyL_int ui3) mk68 zv59 (isPt' _ (Pt.mk none)) k
    rcases hf22 : Fq k with _ | t23
    · skip
      rw [hH18.at_none hf22] at hv25
      replace hv25 : v24 = .pointer none := hv25
      subst hv25
      refine wlVal (opLookupH rfl rfl (hr26 _ _ (hC.heldAt 1 rfl))) rfl ?_
      refine wlVal (OpVal.cast (v' := .bool true) (opPtrNil ip59 rfl rfl) rfl) rfl ?_
      refine wlThen ?_
      refine wcCondT rfl ?_
      refine wcDrawS 7 [0, 1, 3, 7, 0, 0, 63] fmix (by kernel_rfl) (by kernel_rfl) rfl hC hB ?_; intro w hC hB
      refine wdRo 0 rfl (by kernel_rfl) rfl (fun _ => (opMove rfl)) rfl ?_
      refine wdRo 1 rfl (by kernel_rfl) rfl (fun _ => (opNilCheck rfl)) rfl ?_
      refine wdRo 2 rfl (by kernel_rfl) rfl (fun _ => (opFieldAddr rfl fo70_2)) rfl ?_
      refine wdTake 3 rfl (by kernel_rfl) rfl (opLoadOne (v := (.map (some l12))) rfl (hC.hcell 0 rfl (o := 3) rfl) one68) rfl ?_
      refine wdRo 4 rfl (by kernel_rfl) rfl (fun _ => (opMove rfl)) rfl ?_
      refine wdAll [5] (by kernel_rfl) rfl ⟨wd1 rfl ?_, trivial⟩
      intro hGd
      refine wlCallT (A := [(bs, Obj.cells [(Value.int .i64 s.crew.faults), (Value.slice A19 s.crew.nodes.length cap20), (Value.int .i64 s.low), (Value.map (some l12))].toArray 70 (0, 0)), (l12, om13)]) (O := []) (B := H15) hC hB rfl co59 rfl rfl (newSlot_ret _ _ hC.holds hsil) ?_; rintro v27 G _ w hg hC hB ⟨r28, rfl, rfl, hr29⟩
      replace hn6 := hn6.mono hg; replace hn16 := hn16.mono hg; replace hM17 := hM17.mono hg; replace hH18 := hH18.mono hg
      replace hsil := hsil.mono hg
      replace hC : Cx w0 G0 G w ⟨(List.map (·.1) ((bs, .cells [(.int .i64 s.crew.faults), (.slice A9 s.crew.nodes.length cap10), (.int .i64 s.low), (.map (some l2))].toArray 70 (0, 0)) :: (l2, om3) :: H5)), ((bs, .cells [(.int .i64 s.crew.faults), (.slice A19 s.crew.nodes.length cap20), (.int .i64 s.low), (.map (some l12))].toArray 70 (0, 0)) :: (l12, om13) :: (r28.blocks ++ H15))⟩ := hC
      replace hB : Bxs G w w0.heap.size [] ⟨(List.map (·.1) ((bs, .cells [(.int .i64 s.crew.faults), (.slice A9 s.crew.nodes.length cap10), (.int .i64 s.low), (.map (some l2))].toArray 70 (0, 0)) :: (l2, om3) :: H5)), ((bs, .cells [(.int .i64 s.crew.faults), (.slice A19 s.crew.nodes.length cap20), (.int .i64 s.low), (.map (some l12))].toArray 70 (0, 0)) :: (l12, om13) :: (r28.blocks ++ H15))⟩ := hB
      refine wdNext hGd rfl (kpKeep rfl kpNil) (Tk.cons (p := (_, fun w => OpVal _ _ _ w _ _)) (opLoadOne (v := (.map (some l12))) rfl (hC.hcell 0 rfl (o := 3) rfl) one68) (Tk.nil _)) ?_
      refine wdAll [6] (by kernel_rfl) rfl ⟨wd1 rfl ?_, trivial⟩
      intro hGd
      obtain ⟨q30, hM31, hr32, hit33⟩ := hM17.put (keyL_int ui3) mk68 (isPt' _ (Pt.mk (some r28.p))) k
      refine wlMapPutH hC hB (i := 1) rfl rfl rfl rfl (hr32 _ _ (hC.heldAt 1 rfl)) rfl ?_; intro w hC hB
      have hH34 := hH18.add hf22 hr29
      replace hC : Cx w0 G0 G w ⟨(List.map (·.1) ((bs, .cells [(.int .i64 s.crew.faults), (.slice A9 s.crew.nodes.length cap10), (.int .i64 s.low), (.map (some l2))].toArray 70 (0, 0)) :: (l2, om3) :: H5)), ((bs, .cells [(.int .i64 s.crew.faults), (.slice A19 s.crew.nodes.length cap20), (.int .i64 s.low), (.map (some l12))].toArray 70 (0, 0)) :: (l12, q30) :: (r28.blocks ++ H15))⟩ := hC
      replace hB : Bxs G w w0.heap.size [] ⟨(List.map (·.1) ((bs, .cells [(.int .i64 s.crew.faults), (.slice A9 s.crew.nodes.length cap10), (.int .i64 s.low), (.map (some l2))].toArray 70 (0, 0)) :: (l2, om3) :: H5)), ((bs, .cells [(.int .i64 s.crew.faults), (.slice A19 s.crew.nodes.length cap20), (.int .i64 s.low), (.map (some l12))].toArray 70 (0, 0)) :: (l12, q30) :: (r28.blocks ++ H15))⟩ := hB
      refine wdNext hGd rfl (kpDrop rfl kpNil) (Tk.nil _) ?_
      refine wdDone (by kernel_rfl) ?_
      refine wcOf ?_
      refine wcRegion ?_
      refine wlVal (opMove rfl) rfl ?_
      refine wlVal (opAdd rfl rfl) rfl ?_
      refine wlVal (opAssign rfl) rfl ?_
      refine wlRound ?_
      exact (IH0 (IntKind.wrap .i64 (k + 1), (i + 1), ((bs, Obj.cells [(Value.int .i64 s.crew.faults), (Value.slice A19 s.crew.nodes.length cap20), (Value.int .i64 s.low), (Value.map (some l12))].toArray 70 (0, 0)) :: (l12, q30) :: (r28.blocks ++ H15)), (upd Fq k newS)) _ _ ⟨hC, hB, hn6, hsil, ⟨_, _, _, _, _, rfl, hn16, hM31, hH34⟩, (lowk_lt hlow hkk h21), (lowk_step hlow hkk h21), (fill_new hFq hkk hf22)⟩ (by have := lowk_lt hlow hkk h21; show 8 - (i + 1) < 8 - i; omega)).sub (fun _ ha => ((ha.start.cons ha (t := 0) rfl).cons ha (t := 2) rfl))
    · skip
      obtain ⟨r35, H36, hD37, hS38, hp39, hR40⟩ := hH18.at_some hf22
      rw [hD37] at hv25
      replace hv25 : v24 = .pointer (some ⟨r35.p, 0, none⟩) := hv25
      subst hv25
      refine wlVal (opLookupH rfl rfl (hr26 _ _ (hC.heldAt 1 rfl))) rfl ?_
      have hM41 := hS38.pre
      have hM42 := hS38.com
      have hq43 := hS38.q
      have hc44 : r35.c = ((.int .i64 t23.last.view) :: (t23.last.dig.cells ++ ((.int .i64 t23.prep.view) :: (t23.prep.dig.cells ++ ((.map (some r35.m1)) :: ((.map (some r35.m2)) :: (r35.vq :: []))))))) := hS38.c
      replace hC : Cx w0 G0 G w ⟨(List.map (·.1) ((bs, .cells [(.int .i64 s.crew.faults), (.slice A9 s.crew.nodes.length cap10), (.int .i64 s.low), (.map (some l2))].toArray 70 (0, 0)) :: (l2, om3) :: H5)), ((bs, .cells [(.int .i64 s.crew.faults), (.slice A19 s.crew.nodes.length cap20), (.int .i64 s.low), (.map (some l12))].toArray 70 (0, 0)) :: (l12, om13) :: (r35.p, .cells ((.int .i64 t23.last.view) :: (t23.last.dig.cells ++ ((.int .i64 t23.prep.view) :: (t23.prep.dig.cells ++ ((.map (some r35.m1)) :: ((.map (some r35.m2)) :: (r35.vq :: []))))))).toArray 66 (0, 0)) :: (r35.m1, r35.o1) :: (r35.m2, r35.o2) :: (ob r35.oq ++ H36))⟩ := by rw [← hc44]; exact hC.permH ((hp39.cons _).cons _)
      replace hB : Bxs G w w0.heap.size [] ⟨(List.map (·.1) ((bs, .cells [(.int .i64 s.crew.faults), (.slice A9 s.crew.nodes.length cap10), (.int .i64 s.low), (.map (some l2))].toArray 70 (0, 0)) :: (l2, om3) :: H5)), ((bs, .cells [(.int .i64 s.crew.faults), (.slice A19 s.crew.nodes.length cap20), (.int .i64 s.low), (.map (some l12))].toArray 70 (0, 0)) :: (l12, om13) :: (r35.p, .cells ((.int .i64 t23.last.view) :: (t23.last.dig.cells ++ ((.int .i64 t23.prep.view) :: (t23.prep.dig.cells ++ ((.map (some r35.m1)) :: ((.map (some r35.m2)) :: (r35.vq :: []))))))).toArray 66 (0, 0)) :: (r35.m1, r35.o1) :: (r35.m2, r35.o2) :: (ob r35.oq ++ H36))⟩ := by rw [← hc44]; exact hB.permH ((hp39.cons _).cons _)
      refine wlVal (OpVal.cast (v' := .bool false) (opPtrNil ip59 rfl rfl) rfl) rfl ?_
      refine wlThen ?_
      refine wcCondF rfl ?_
      refine wcSkip ?_
      refine wcOf ?_
      refine wcRegion ?_
      refine wlVal (opMove rfl) rfl ?_
      refine wlVal (opAdd rfl rfl) rfl ?_
      refine wlVal (opAssign rfl) rfl ?_
      refine wlRound ?_
      exact (IH0 (IntKind.wrap .i64 (k + 1), (i + 1), ((bs, Obj.cells [(Value.int .i64 s.crew.faults), (Value.slice A19 s.crew.nodes.length cap20), (Value.int .i64 s.low), (Value.map (some l12))].toArray 70 (0, 0)) :: (l12, om13) :: (r35.p, Obj.cells ((Value.int .i64 t23.last.view) :: (t23.last.dig.cells ++ ((Value.int .i64 t23.prep.view) :: (t23.prep.dig.cells ++ ((Value.map (some r35.m1)) :: ((Value.map (some r35.m2)) :: (r35.vq :: []))))))).toArray 66 (0, 0)) :: (r35.m1, r35.o1) :: (r35.m2, r35.o2) :: (ob r35.oq ++ H36)), (upd Fq k t23)) _ _ ⟨hC, hB, hn6, hsil, ⟨_, _, _, _, _, rfl, hn16, hM17, (hR40 _ ⟨r35.p, r35.m1, r35.m2, ((Value.int .i64 t23.last.view) :: (t23.last.dig.cells ++ ((Value.int .i64 t23.prep.view) :: (t23.prep.dig.cells ++ ((Value.map (some r35.m1)) :: ((Value.map (some r35.m2)) :: (r35.vq :: []))))))), r35.o1, r35.o2, r35.vq, r35.oq⟩ t23 (fun _ _ h => h) rfl ⟨rfl, hM41, hM42, hq43, hS38.ql⟩)⟩, (lowk_lt hlow hkk h21), (lowk_step hlow hkk h21), (fill_old hFq hkk hf22)⟩ (by have := lowk_lt hlow hkk h21; show 8 - (i + 1) < 8 - i; omega)).sub (fun _ ha => ((ha.start.cons ha (t := 0) rfl).cons ha (t := 2) rfl))

theorem new_ok (G0 : Gh) (w0 : World) (hw : Holds G0 w0) (csc : List Value) (c : Crew) (hc : Rp.Is G0 csc c) (self : Int) (low : Int) (hsil : RowG G0 0 0 silence.cells) (hok : newOk c self low = true) :
    RetT Tryd.prog 22 #[.agg csc.toArray, .int .i64 self, .int .i64 low] G0 w0 [] (fun G L v => ∃ b, v = .tuple #[.pointer (some ⟨b, 0, none⟩), .int .i64 0] ∧ SlO G b L (newSl c low)) := by
  have hC := Cx.refl hw
  have hB : Bxs G0 w0 w0.heap.size [] := Bxs.nil _ _ _
  obtain ⟨v1, rfl, hs2⟩ := Crew.opIs hc
  obtain ⟨A3, cap4, rfl⟩ := hs2.form
  refine callsOf Tryd.func22 rfl _ Tryd.ntmps22 rfl _ (argsCons (argsCons (argsCons argsNil (t := 0) rfl) (t := 1) rfl) (t := 2) rfl) ?_; intro Q0 hQ
  refine wcSeq ?_
  refine wcRegion ?_
  refine wlBox (cs := [(.int .i64 c.faults), (.slice A3 c.nodes.length cap4)]) hC hB rfl rfl rfl ?_; intro b5 w hk hC hB
  refine wlVal (opAssign rfl) rfl ?_
  refine wlVal (opAssign rfl) rfl ?_
  refine wlThen ?_
  refine wcSeq ?_
  refine wcBlock ?_
  refine wcSeq ?_
  refine wcRegion ?_
  refine wlVal (opLoadRow (cs := [(.int .i64 c.faults), (.slice A3 c.nodes.length cap4)]) rfl (hB.range (i := 0) (m := 2) rfl rfl) row53 rfl) rfl ?_
  refine wlCallS hC hB rfl co42 rfl rfl (check_ret _ _ hC.holds _ c (Crew.mkIs (x := c) hs2)) ?_; intro w hk hC hB
  refine wlVal (opNeq rfl rfl) rfl ?_
  refine wlVal (opMove rfl) rfl ?_
  cases h6 : ((check c)) != 0
  · skip
    refine wlOn rfl rfl ?_
    refine wlVal (opLoadRow (cs := [(.int .i64 c.faults), (.slice A3 c.nodes.length cap4)]) rfl (hB.range (i := 0) (m := 2) rfl rfl) row53 rfl) rfl ?_
    refine wlOn rfl rfl ?_
    refine wlVal (opMove rfl) rfl ?_
    refine wlOn rfl rfl ?_
    refine wlCallS hC hB rfl co43 rfl rfl (has_ret _ _ hC.holds _ c (Crew.mkIs (x := c) hs2) self) ?_; intro w hk hC hB
    refine wlOn rfl rfl ?_
    refine wlVal (opNot rfl) rfl ?_
    refine wlVal (opPickF rfl rfl) rfl ?_
    refine wlVal (opAssign rfl) rfl ?_
    refine wlThen ?_
    cases h7 : (has c self)
    · skip
      exact (absurd h7 (by rw [newOk_2 hok]; decide) : False).elim
    · skip
      refine wcCondF rfl ?_
      refine wcSeq ?_
      refine wcRegion ?_
      refine wlVal (opMove rfl) rfl ?_
      refine wlCallS hC hB rfl co44 rfl rfl (lowMay_ret _ _ hC.holds low) ?_; intro w hk hC hB
      refine wlVal (opNot rfl) rfl ?_
      refine wlVal (opAssign rfl) rfl ?_
      refine wlThen ?_
      cases h8 : (lowB low)
      · skip
        exact (absurd h8 (by rw [newOk_3 hok]; decide) : False).elim
      · skip
        refine wcCondF rfl ?_
        refine wcSkip ?_
        refine wcOf ?_
        refine wcSeq ?_
        refine wcRegion ?_
        refine wlVal (opFieldAddr rfl fo53_1) rfl ?_
        refine wlVal (opLoadOne (v := (.slice A3 c.nodes.length cap4)) rfl (hB.cell (i := 0) rfl rfl) one51) rfl ?_
        refine wlCallO (bl := [(b5, 53, [(.int .i64 c.faults), (.slice A3 c.nodes.length cap4)])]) (r := []) hC hB rfl co45 rfl rfl (cloneI_ret _ _ hC.holds _ c.nodes hs2 (new_l6 (newOk_1 hok))) ?_; rintro v13 G o11 w hk hC hB ⟨A9, cap10, rfl, hO12⟩
        replace hs2 := hs2.mono hk.gle
        replace hsil := hsil.mono hk.gle
        refine wlVal (opFieldAddr rfl fo53_1) rfl ?_
        obtain ⟨G, hg15, hC, hB, hs14⟩ := Ow.freeze' (bl := [(b5, 53, [(.int .i64 c.faults), (.slice A3 c.nodes.length cap4)])]) (r := []) hO12 hC (Nat.le_refl _) hB (new_le (newOk_1 hok))
        replace hs2 := hs2.mono hg15
        replace hsil := hsil.mono hg15
        refine wlStore 0 (vs := [(.slice A9 c.nodes.length cap10)]) (cs := [(.int .i64 c.faults), (.slice A3 c.nodes.length cap4)]) (cs' := [(.int .i64 c.faults), (.slice A9 c.nodes.length cap10)]) hC hB rfl rfl rfl sz51 rfl rfl rfl (by simp [Word.cells, Stand.cells, Wd.cells, Mark.cells]) rfl rfl ?_; intro w hC hB
        refine wlThen ?_
        refine wcSeq ?_
        refine wcRegion ?_
        refine wlVal (opLoadRow (cs := [(.int .i64 c.faults), (.slice A9 c.nodes.length cap10)]) rfl (hB.range (i := 0) (m := 2) rfl rfl) row53 rfl) rfl ?_
        refine wlVal (opMove rfl) rfl ?_
        refine wlMakeMapH hC hB rfl ?_; intro b16 w hC hB
        have hM17 : MpO kI G (.map #[] 0) ([] : List (Int × Pt)) := MpO.nil_ _ _
        replace hC : Cx w0 G0 G w ⟨[], [(b16, .map #[] 0)]⟩ := hC
        replace hB : Bxs G w w0.heap.size [(b5, 53, [(.int .i64 c.faults), (.slice A9 c.nodes.length cap10)])] ⟨[], [(b16, .map #[] 0)]⟩ := hB
        refine wlVal (opBuild (ps := [(0, .tmp 27), (1, .tmp 28), (2, .tmp 29)]) (cs := [(.int .i64 c.faults), (.slice A9 c.nodes.length cap10), (.int .i64 low), (.map (some b16))]) so70 zero70 rfl rfl (by first | (simp [buildCells, Value.cells]; done) | simp [buildCells, Value.cells, Word.cells, Stand.cells, Wd.cells, Mark.cells])) rfl ?_
        refine wlBox (cs := [(.int .i64 c.faults), (.slice A9 c.nodes.length cap10), (.int .i64 low), (.map (some b16))]) hC hB rfl rfl rfl ?_; intro b18 w hk hC hB
        obtain ⟨hC, hB⟩ := hold hC hB (i := 0) rfl
        have hH19 : SlH G [] [] (fun _ => none) := SlH.nil_ _
        replace hC : Cx w0 G0 G w ⟨[], [(b18, .cells [(.int .i64 c.faults), (.slice A9 c.nodes.length cap10), (.int .i64 low), (.map (some b16))].toArray 70 (0, 0)), (b16, .map #[] 0)]⟩ := hC
        replace hB : Bxs G w w0.heap.size [(b5, 53, [(.int .i64 c.faults), (.slice A9 c.nodes.length cap10)])] ⟨[], [(b18, .cells [(.int .i64 c.faults), (.slice A9 c.nodes.length cap10), (.int .i64 low), (.map (some b16))].toArray 70 (0, 0)), (b16, .map #[] 0)]⟩ := hB
        refine wlVal (opAssign rfl) rfl ?_
        refine wlThen ?_
        refine wcSeq ?_
        refine wcRegion ?_
        refine wlVal (opMove rfl) rfl ?_
        refine wlCallW hC hB rfl co46 rfl rfl (fill_ret _ _ hC.holds b18 _ ((SlS.mk c low (fun _ => none))) (fun x hx => ⟨(hC.held x hx).1, (hC.held x hx).2.1⟩) hC.hnd ⟨_, _, _, _, _, rfl, hs14, hM17, hH19⟩ hsil (lowB_of (newOk_3 hok))) ?_; rintro v20 G O21 w hg hC hB ⟨hs22, rfl⟩
        replace hs2 := hs2.mono hg; replace hs14 := hs14.mono hg
        replace hsil := hsil.mono hg
        obtain ⟨v23, l24, om25, D26, H27, rfl, hn28, hM29, hH30⟩ := hs22
        obtain ⟨A31, cap32, rfl⟩ := hn28.form
        replace hC : Cx w0 G0 G w ⟨[], ((b18, .cells [(.int .i64 (((SlS.mk ((SlS.mk c low (fun _ => none))).crew ((SlS.mk c low (fun _ => none))).low (fillN ((SlS.mk c low (fun _ => none))).f (((SlS.mk c low (fun _ => none))).low + 1) 8))).crew.faults)), (.slice A31 ((((SlS.mk ((SlS.mk c low (fun _ => none))).crew ((SlS.mk c low (fun _ => none))).low (fillN ((SlS.mk c low (fun _ => none))).f (((SlS.mk c low (fun _ => none))).low + 1) 8))).crew.nodes).length) cap32), (.int .i64 (((SlS.mk ((SlS.mk c low (fun _ => none))).crew ((SlS.mk c low (fun _ => none))).low (fillN ((SlS.mk c low (fun _ => none))).f (((SlS.mk c low (fun _ => none))).low + 1) 8))).low)), (.map (some l24))].toArray 70 (0, 0)) :: (l24, om25) :: H27)⟩ := hC
        replace hB : Bxs G w w0.heap.size [(b5, 53, [(.int .i64 c.faults), (.slice A9 c.nodes.length cap10)])] ⟨[], ((b18, .cells [(.int .i64 (((SlS.mk ((SlS.mk c low (fun _ => none))).crew ((SlS.mk c low (fun _ => none))).low (fillN ((SlS.mk c low (fun _ => none))).f (((SlS.mk c low (fun _ => none))).low + 1) 8))).crew.faults)), (.slice A31 ((((SlS.mk ((SlS.mk c low (fun _ => none))).crew ((SlS.mk c low (fun _ => none))).low (fillN ((SlS.mk c low (fun _ => none))).f (((SlS.mk c low (fun _ => none))).low + 1) 8))).crew.nodes).length) cap32), (.int .i64 (((SlS.mk ((SlS.mk c low (fun _ => none))).crew ((SlS.mk c low (fun _ => none))).low (fillN ((SlS.mk c low (fun _ => none))).f (((SlS.mk c low (fun _ => none))).low + 1) 8))).low)), (.map (some l24))].toArray 70 (0, 0)) :: (l24, om25) :: H27)⟩ := hB
        refine wlThen ?_
        refine wcSeq ?_
        refine wcRegion ?_
        refine wlVal (opMove rfl) rfl ?_
        refine wlVal (opAssign rfl) rfl ?_
        refine wlVal (opAssign rfl) rfl ?_
        refine wlThen ?_
        refine wcRet ?_
        exact fun ac_ ha => hQ _ _ _ (results2 ha rfl rfl rfl) ha.df (endT hC ((b18, .cells [(.int .i64 (((SlS.mk ((SlS.mk c low (fun _ => none))).crew ((SlS.mk c low (fun _ => none))).low (fillN ((SlS.mk c low (fun _ => none))).f (((SlS.mk c low (fun _ => none))).low + 1) 8))).crew.faults)), (.slice A31 ((((SlS.mk ((SlS.mk c low (fun _ => none))).crew ((SlS.mk c low (fun _ => none))).low (fillN ((SlS.mk c low (fun _ => none))).f (((SlS.mk c low (fun _ => none))).low + 1) 8))).crew.nodes).length) cap32), (.int .i64 (((SlS.mk ((SlS.mk c low (fun _ => none))).crew ((SlS.mk c low (fun _ => none))).low (fillN ((SlS.mk c low (fun _ => none))).f (((SlS.mk c low (fun _ => none))).low + 1) 8))).low)), (.map (some l24))].toArray 70 (0, 0)) :: (l24, om25) :: H27) ⟨[], List.Perm.of_eq (List.append_nil _).symm⟩ ⟨b18, rfl, (by have e_ : newSl c low = ((SlS.mk ((SlS.mk c low (fun _ => none))).crew ((SlS.mk c low (fun _ => none))).low (fillN ((SlS.mk c low (fun _ => none))).f (((SlS.mk c low (fun _ => none))).low + 1) 8))) := rfl; rw [e_]; exact ⟨_, _, _, _, _, rfl, hn28, hM29, hH30⟩)⟩)
  · skip
    exact (absurd h6 (by rw [newOk_1 hok]; decide) : False).elim

theorem restore_ret (G0 : Gh) (w0 : World) (hw : Holds G0 w0) (bs : Nat) (Os : List (Nat × Obj)) (s : SlS) (hOs : ∀ x ∈ Os, w0.heap[x.1]? = some x.2 ∧ G0 x.1 = none) (hds : (Os.map (·.1)).Nodup) (hs : SlO G0 bs Os s) (vpl : Value) (pl : List Stand) (hpl : Sl G0 vpl pl) (vql : Value) (ql : List Stand) (hql : Sl G0 vql ql) (hsil : RowG G0 0 0 silence.cells) (hok : SlOk s) (hlq : ql.length ≤ 1000000) :
    RetT Tryd.prog 26 #[.pointer (some ⟨bs, 0, none⟩), vpl, vql] G0 w0 (List.map (·.1) Os) (fun G O v_ => SlO G bs O (restI s pl ql).1 ∧ v_ = .int .i64 (restI s pl ql).2) := by
  have hC := Cx.refl hw
  have hB : Bxs G0 w0 w0.heap.size [] := Bxs.nil _ _ _
  obtain ⟨v1, l2, om3, D4, H5, rfl, hn6, hM7, hH8⟩ := hs
  obtain ⟨A9, cap10, rfl⟩ := hn6.form
  have hC := Cx.reflH ((bs, .cells [(.int .i64 s.crew.faults), (.slice A9 s.crew.nodes.length cap10), (.int .i64 s.low), (.map (some l2))].toArray 70 (0, 0)) :: (l2, om3) :: H5) (List.map (·.1) ((bs, .cells [(.int .i64 s.crew.faults), (.slice A9 s.crew.nodes.length cap10), (.int .i64 s.low), (.map (some l2))].toArray 70 (0, 0)) :: (l2, om3) :: H5)) hw (fun x hx => ⟨(hOs x hx).1, (hOs x hx).2, List.mem_map.2 ⟨x, hx, rfl⟩⟩) hds
  have hB : Bxs G0 w0 w0.heap.size [] ⟨(List.map (·.1) ((bs, .cells [(.int .i64 s.crew.faults), (.slice A9 s.crew.nodes.length cap10), (.int .i64 s.low), (.map (some l2))].toArray 70 (0, 0)) :: (l2, om3) :: H5)), ((bs, .cells [(.int .i64 s.crew.faults), (.slice A9 s.crew.nodes.length cap10), (.int .i64 s.low), (.map (some l2))].toArray 70 (0, 0)) :: (l2, om3) :: H5)⟩ := Bxs.nil _ _ _
  obtain ⟨A11, cap12, rfl⟩ := hpl.form
  obtain ⟨A13, cap14, rfl⟩ := hql.form
  refine callsOf Tryd.func26 rfl _ Tryd.ntmps26 rfl _ (argsCons (argsCons (argsCons argsNil (t := 0) rfl) (t := 1) rfl) (t := 2) rfl) ?_; intro Q0 hQ
  refine wcSeq ?_
  refine wcRegion ?_
  refine wlVal (opAssign rfl) rfl ?_
  refine wlThen ?_
  refine wcSeq ?_
  refine wcBlock ?_
  refine wcSeq ?_
  refine wcRegion ?_
  refine wlVal (opMove rfl) rfl ?_
  refine wlCallS hC hB rfl co32 rfl rfl (RetS.lend hC (fun G_ hg_ hh_ hL_ => none_ret _ _ hh_ bs l2 _ s (hL_ (bs, .cells [(.int .i64 s.crew.faults), (.slice A9 s.crew.nodes.length cap10), (.int .i64 s.low), (.map (some l2))].toArray 70 (0, 0)) (by simp)) (hn6.mono hg_))) ?_; intro w hk hC hB
  refine wlVal (opAssign rfl) rfl ?_
  refine wlThen ?_
  refine wcCondF rfl ?_
  refine wcSeq ?_
  refine wcRegion ?_
  refine wlVal (opMove rfl) rfl ?_
  refine wlVal (opMove rfl) rfl ?_
  refine wlCallS hC hB rfl co47 rfl rfl (RetS.lend hC (fun G_ hg_ hh_ hL_ => pMay_ret _ _ hh_ bs _ s hL_ ⟨_, _, _, _, _, rfl, (hn6.mono hg_), (hM7.mono hg_), (hH8.mono hg_)⟩ _ pl (hpl.mono hg_))) ?_; intro w hk hC hB
  refine wlVal (opNot rfl) rfl ?_
  refine wlVal (opMove rfl) rfl ?_
  cases h15 : ((pMayG s.f none pl))
  · skip
    refine wlOff rfl rfl rfl rfl ?_
    refine wlOff rfl rfl rfl rfl ?_
    refine wlOff rfl rfl rfl rfl ?_
    refine wlOff rfl rfl rfl rfl ?_
    refine wlVal (opPickT rfl rfl) rfl ?_
    refine wlVal (opAssign rfl) rfl ?_
    refine wlThen ?_
    refine wcCondT rfl ?_
    refine wcSeq ?_
    refine wcRegion ?_
    refine wlVal (opAssign rfl) rfl ?_
    refine wlThen ?_
    refine wcRet ?_
    exact fun ac_ ha => hQ _ _ _ (results1 ha rfl rfl) ha.df (endT hC ((bs, .cells [(.int .i64 s.crew.faults), (.slice A9 s.crew.nodes.length cap10), (.int .i64 s.low), (.map (some l2))].toArray 70 (0, 0)) :: (l2, om3) :: H5) ⟨[], List.Perm.of_eq (List.append_nil _).symm⟩ ⟨(by have e_ : (restI s pl ql).1 = s := (by simp only [restI, h15, cond_true, cond_false, Bool.not_true, Bool.not_false, Bool.and_true, Bool.and_false, Bool.true_and, Bool.false_and, Bool.or_true, Bool.true_or, Bool.or_false, Bool.false_or, zne]); rw [e_]; exact ⟨_, _, _, _, _, rfl, hn6, hM7, hH8⟩), (by simp only [restI, h15, cond_true, cond_false, Bool.not_true, Bool.not_false, Bool.and_true, Bool.and_false, Bool.true_and, Bool.false_and, Bool.or_true, Bool.true_or, Bool.or_false, Bool.false_or, zne])⟩)
  · skip
    refine wlOn rfl rfl ?_
    refine wlVal (opMove rfl) rfl ?_
    refine wlOn rfl rfl ?_
    refine wlVal (opMove rfl) rfl ?_
    refine wlOn rfl rfl ?_
    refine wlCallS hC hB rfl co48 rfl rfl (RetS.lend hC (fun G_ hg_ hh_ hL_ => qMay_ret _ _ hh_ bs _ s hL_ ⟨_, _, _, _, _, rfl, (hn6.mono hg_), (hM7.mono hg_), (hH8.mono hg_)⟩ _ ql (hql.mono hg_))) ?_; intro w hk hC hB
    refine wlOn rfl rfl ?_
    refine wlVal (opNot rfl) rfl ?_
    refine wlVal (opPickF rfl rfl) rfl ?_
    refine wlVal (opAssign rfl) rfl ?_
    refine wlThen ?_
    cases h16 : ((qMayG s.f none [] [] ql))
    · skip
      refine wcCondT rfl ?_
      refine wcSeq ?_
      refine wcRegion ?_
      refine wlVal (opAssign rfl) rfl ?_
      refine wlThen ?_
      refine wcRet ?_
      exact fun ac_ ha => hQ _ _ _ (results1 ha rfl rfl) ha.df (endT hC ((bs, .cells [(.int .i64 s.crew.faults), (.slice A9 s.crew.nodes.length cap10), (.int .i64 s.low), (.map (some l2))].toArray 70 (0, 0)) :: (l2, om3) :: H5) ⟨[], List.Perm.of_eq (List.append_nil _).symm⟩ ⟨(by have e_ : (restI s pl ql).1 = s := (by simp only [restI, h15, h16, cond_true, cond_false, Bool.not_true, Bool.not_false, Bool.and_true, Bool.and_false, Bool.true_and, Bool.false_and, Bool.or_true, Bool.true_or, Bool.or_false, Bool.false_or, zne]); rw [e_]; exact ⟨_, _, _, _, _, rfl, hn6, hM7, hH8⟩), (by simp only [restI, h15, h16, cond_true, cond_false, Bool.not_true, Bool.not_false, Bool.and_true, Bool.and_false, Bool.true_and, Bool.false_and, Bool.or_true, Bool.true_or, Bool.or_false, Bool.false_or, zne])⟩)
    · skip
      refine wcCondF rfl ?_
      refine wcSkip ?_
      refine wcOf ?_
      refine wcSeq ?_
      refine wcRegion ?_
      refine wlVal (opMove rfl) rfl ?_
      refine wlVal (opNilCheck rfl) rfl ?_
      refine wlVal (opFieldAddr rfl fo70_2) rfl ?_
      refine wlVal (opLoadOne (v := (.map (some l2))) rfl (hC.hcell 0 rfl (o := 3) rfl) one68) rfl ?_
      obtain ⟨q17, hM18, hr19⟩ := hM7.clear mk68
      refine wlMapClearH hC hB (i := 1) rfl rfl (hr19 _ _ _ (hC.heldAt 1 rfl)) rfl ?_; intro w hC hB
      have hH21 := hH8.cleared
      replace hC : Cx w0 G0 G0 w ⟨(List.map (·.1) ((bs, .cells [(.int .i64 s.crew.faults), (.slice A9 s.crew.nodes.length cap10), (.int .i64 s.low), (.map (some l2))].toArray 70 (0, 0)) :: (l2, om3) :: H5)), ((bs, .cells [(.int .i64 s.crew.faults), (.slice A9 s.crew.nodes.length cap10), (.int .i64 s.low), (.map (some l2))].toArray 70 (0, 0)) :: (l2, q17) :: H5)⟩ := hC
      replace hB : Bxs G0 w w0.heap.size [] ⟨(List.map (·.1) ((bs, .cells [(.int .i64 s.crew.faults), (.slice A9 s.crew.nodes.length cap10), (.int .i64 s.low), (.map (some l2))].toArray 70 (0, 0)) :: (l2, om3) :: H5)), ((bs, .cells [(.int .i64 s.crew.faults), (.slice A9 s.crew.nodes.length cap10), (.int .i64 s.low), (.map (some l2))].toArray 70 (0, 0)) :: (l2, q17) :: H5)⟩ := hB
      refine wlThen ?_
      refine wcSeq ?_
      refine wcRegion ?_
      refine wlVal (opMove rfl) rfl ?_
      refine wlCallW hC hB rfl co46 rfl rfl (fill_ret _ _ hC.holds bs _ ((SlS.mk s.crew s.low (fun _ => none))) (fun x hx => ⟨(hC.held x hx).1, (hC.held x hx).2.1⟩) hC.hnd ⟨_, _, _, _, _, rfl, hn6, hM18, hH21⟩ hsil hok.low) ?_; rintro v22 G O23 w hg hC hB ⟨hs24, rfl⟩
      replace hn6 := hn6.mono hg; replace hpl := hpl.mono hg; replace hql := hql.mono hg
      replace hsil := hsil.mono hg
      obtain ⟨v25, l26, om27, D28, H29, rfl, hn30, hM31, hH32⟩ := hs24
      obtain ⟨A33, cap34, rfl⟩ := hn30.form
      replace hC : Cx w0 G0 G w ⟨(List.map (·.1) ((bs, .cells [(.int .i64 s.crew.faults), (.slice A9 s.crew.nodes.length cap10), (.int .i64 s.low), (.map (some l2))].toArray 70 (0, 0)) :: (l2, om3) :: H5)), ((bs, .cells [(.int .i64 (((SlS.mk ((SlS.mk s.crew s.low (fun _ => none))).crew ((SlS.mk s.crew s.low (fun _ => none))).low (fillN ((SlS.mk s.crew s.low (fun _ => none))).f (((SlS.mk s.crew s.low (fun _ => none))).low + 1) 8))).crew.faults)), (.slice A33 ((((SlS.mk ((SlS.mk s.crew s.low (fun _ => none))).crew ((SlS.mk s.crew s.low (fun _ => none))).low (fillN ((SlS.mk s.crew s.low (fun _ => none))).f (((SlS.mk s.crew s.low (fun _ => none))).low + 1) 8))).crew.nodes).length) cap34), (.int .i64 (((SlS.mk ((SlS.mk s.crew s.low (fun _ => none))).crew ((SlS.mk s.crew s.low (fun _ => none))).low (fillN ((SlS.mk s.crew s.low (fun _ => none))).f (((SlS.mk s.crew s.low (fun _ => none))).low + 1) 8))).low)), (.map (some l26))].toArray 70 (0, 0)) :: (l26, om27) :: H29)⟩ := hC
      replace hB : Bxs G w w0.heap.size [] ⟨(List.map (·.1) ((bs, .cells [(.int .i64 s.crew.faults), (.slice A9 s.crew.nodes.length cap10), (.int .i64 s.low), (.map (some l2))].toArray 70 (0, 0)) :: (l2, om3) :: H5)), ((bs, .cells [(.int .i64 (((SlS.mk ((SlS.mk s.crew s.low (fun _ => none))).crew ((SlS.mk s.crew s.low (fun _ => none))).low (fillN ((SlS.mk s.crew s.low (fun _ => none))).f (((SlS.mk s.crew s.low (fun _ => none))).low + 1) 8))).crew.faults)), (.slice A33 ((((SlS.mk ((SlS.mk s.crew s.low (fun _ => none))).crew ((SlS.mk s.crew s.low (fun _ => none))).low (fillN ((SlS.mk s.crew s.low (fun _ => none))).f (((SlS.mk s.crew s.low (fun _ => none))).low + 1) 8))).crew.nodes).length) cap34), (.int .i64 (((SlS.mk ((SlS.mk s.crew s.low (fun _ => none))).crew ((SlS.mk s.crew s.low (fun _ => none))).low (fillN ((SlS.mk s.crew s.low (fun _ => none))).f (((SlS.mk s.crew s.low (fun _ => none))).low + 1) 8))).low)), (.map (some l26))].toArray 70 (0, 0)) :: (l26, om27) :: H29)⟩ := hB
      refine wlThen ?_
      refine wcSeq ?_
      refine wcSeq ?_
      refine wcRegion ?_
      refine wlVal (opMove rfl) rfl ?_
      refine wlVal (opLen rfl isl33) rfl ?_
      refine wlVal (opMove rfl) rfl ?_
      refine wlThen ?_
      refine wcBlock ?_
      refine WC.sub (wrInd (ι := Nat × (List (Nat × Obj)) × (Int → Option SlotS)) (fun i => match i with | (k, Op_, Fp) => pl.length - k) (fun i G w => match i with | (k, Op_, Fp) => Cx w0 G0 G w ⟨(List.map (·.1) ((bs, .cells [(.int .i64 s.crew.faults), (.slice A9 s.crew.nodes.length cap10), (.int .i64 s.low), (.map (some l2))].toArray 70 (0, 0)) :: (l2, om3) :: H5)), (Op_)⟩ ∧ Bxs G w w0.heap.size [] ⟨(List.map (·.1) ((bs, .cells [(.int .i64 s.crew.faults), (.slice A9 s.crew.nodes.length cap10), (.int .i64 s.low), (.map (some l2))].toArray 70 (0, 0)) :: (l2, om3) :: H5)), (Op_)⟩ ∧ Sl G (.slice A9 s.crew.nodes.length cap10) s.crew.nodes ∧ Sl G (.slice A11 pl.length cap12) pl ∧ Sl G (.slice A13 ql.length cap14) ql ∧ Sl G (.slice A33 ((((SlS.mk ((SlS.mk s.crew s.low (fun _ => none))).crew ((SlS.mk s.crew s.low (fun _ => none))).low (fillN ((SlS.mk s.crew s.low (fun _ => none))).f (((SlS.mk s.crew s.low (fun _ => none))).low + 1) 8))).crew.nodes).length) cap34) (((SlS.mk ((SlS.mk s.crew s.low (fun _ => none))).crew ((SlS.mk s.crew s.low (fun _ => none))).low (fillN ((SlS.mk s.crew s.low (fun _ => none))).f (((SlS.mk s.crew s.low (fun _ => none))).low + 1) 8))).crew.nodes) ∧ RowG G 0 0 silence.cells ∧ SlO G bs Op_ (SlS.mk s.crew s.low Fp) ∧ (pl.drop k).foldl setP Fp = pl.foldl setP (f0 s.low) ∧ (∀ y, (Fp y).isSome = (f0 s.low y).isSome) ∧ (∀ y u, Fp y = some u → u.q.length ≤ 0)) (fun i => match i with | (k, Op_, Fp) => (((((Env.nil.put 0 (.pointer (some ⟨bs, 0, none⟩))).put 2 (.slice A13 ql.length cap14)).put 32 (.slice A11 pl.length cap12)).put 33 (.int .i64 (((pl.length : Nat) : Int)))).put 34 (.int .i64 (((k : Nat) : Int))))) ?_ (0, ((bs, .cells [(.int .i64 (((SlS.mk ((SlS.mk s.crew s.low (fun _ => none))).crew ((SlS.mk s.crew s.low (fun _ => none))).low (fillN ((SlS.mk s.crew s.low (fun _ => none))).f (((SlS.mk s.crew s.low (fun _ => none))).low + 1) 8))).crew.faults)), (.slice A33 ((((SlS.mk ((SlS.mk s.crew s.low (fun _ => none))).crew ((SlS.mk s.crew s.low (fun _ => none))).low (fillN ((SlS.mk s.crew s.low (fun _ => none))).f (((SlS.mk s.crew s.low (fun _ => none))).low + 1) 8))).crew.nodes).length) cap34), (.int .i64 (((SlS.mk ((SlS.mk s.crew s.low (fun _ => none))).crew ((SlS.mk s.crew s.low (fun _ => none))).low (fillN ((SlS.mk s.crew s.low (fun _ => none))).f (((SlS.mk s.crew s.low (fun _ => none))).low + 1) 8))).low)), (.map (some l26))].toArray 70 (0, 0)) :: (l26, om27) :: H29), ((SlS.mk ((SlS.mk s.crew s.low (fun _ => none))).crew ((SlS.mk s.crew s.low (fun _ => none))).low (fillN ((SlS.mk s.crew s.low (fun _ => none))).f (((SlS.mk s.crew s.low (fun _ => none))).low + 1) 8))).f) _ _ ⟨hC, hB, hn6, hpl, hql, hn30, hsil, ⟨_, _, _, _, _, rfl, hn30, hM31, hH32⟩, rfl, (fun _ => rfl), (fun _ _ h => f0_q h)⟩) (fun _ ha => (((((ha.start.cons ha (t := 0) rfl).cons ha (t := 2) rfl).cons ha (t := 32) rfl).cons ha (t := 33) rfl).cons ha (t := 34) rfl))
      rintro ⟨k, Op_, Fp⟩ G w N0 IH0 ⟨hC, hB, hn6, hpl, hql, hn30, hsil, hWOp_, hP, hD, hE⟩
      show WC _ _ _ _ (((((Env.nil.put 0 (.pointer (some ⟨bs, 0, none⟩))).put 2 (.slice A13 ql.length cap14)).put 32 (.slice A11 pl.length cap12)).put 33 (.int .i64 (((pl.length : Nat) : Int)))).put 34 (.int .i64 (((k : Nat) : Int)))) w
      obtain ⟨v35, l36, om37, D38, H39, rfl, hn40, hM41, hH42⟩ := hWOp_
      obtain ⟨A43, cap44, rfl⟩ := hn40.form
      replace hC : Cx w0 G0 G w ⟨(List.map (·.1) ((bs, .cells [(.int .i64 s.crew.faults), (.slice A9 s.crew.nodes.length cap10), (.int .i64 s.low), (.map (some l2))].toArray 70 (0, 0)) :: (l2, om3) :: H5)), ((bs, .cells [(.int .i64 s.crew.faults), (.slice A43 s.crew.nodes.length cap44), (.int .i64 s.low), (.map (some l36))].toArray 70 (0, 0)) :: (l36, om37) :: H39)⟩ := hC
      replace hB : Bxs G w w0.heap.size [] ⟨(List.map (·.1) ((bs, .cells [(.int .i64 s.crew.faults), (.slice A9 s.crew.nodes.length cap10), (.int .i64 s.low), (.map (some l2))].toArray 70 (0, 0)) :: (l2, om3) :: H5)), ((bs, .cells [(.int .i64 s.crew.faults), (.slice A43 s.crew.nodes.length cap44), (.int .i64 s.low), (.map (some l36))].toArray 70 (0, 0)) :: (l36, om37) :: H39)⟩ := hB
      refine wcSeq ?_
      refine wcRegion ?_
      refine wlVal (opLssN rfl rfl) rfl ?_
      refine wlThen ?_
      refine wcSeq ?_
      cases h45 : decide (k < pl.length)
      · skip
        refine wcCondF rfl ?_
        refine wcExit ?_
        refine wcOf ?_
        refine wcSeq ?_
        refine wcSeq ?_
        refine wcRegion ?_
        refine wlVal (opMove rfl) rfl ?_
        refine wlVal (opLen rfl isl33) rfl ?_
        refine wlVal (opMove rfl) rfl ?_
        refine wlThen ?_
        refine wcBlock ?_
        refine WC.sub (wrInd (ι := Nat × (List (Nat × Obj)) × (Int → Option SlotS)) (fun i => match i with | (k2, Oq_, Fq) => ql.length - k2) (fun i G w => match i with | (k2, Oq_, Fq) => Cx w0 G0 G w ⟨(List.map (·.1) ((bs, .cells [(.int .i64 s.crew.faults), (.slice A9 s.crew.nodes.length cap10), (.int .i64 s.low), (.map (some l2))].toArray 70 (0, 0)) :: (l2, om3) :: H5)), (Oq_)⟩ ∧ Bxs G w w0.heap.size [] ⟨(List.map (·.1) ((bs, .cells [(.int .i64 s.crew.faults), (.slice A9 s.crew.nodes.length cap10), (.int .i64 s.low), (.map (some l2))].toArray 70 (0, 0)) :: (l2, om3) :: H5)), (Oq_)⟩ ∧ Sl G (.slice A9 s.crew.nodes.length cap10) s.crew.nodes ∧ Sl G (.slice A11 pl.length cap12) pl ∧ Sl G (.slice A13 ql.length cap14) ql ∧ Sl G (.slice A33 ((((SlS.mk ((SlS.mk s.crew s.low (fun _ => none))).crew ((SlS.mk s.crew s.low (fun _ => none))).low (fillN ((SlS.mk s.crew s.low (fun _ => none))).f (((SlS.mk s.crew s.low (fun _ => none))).low + 1) 8))).crew.nodes).length) cap34) (((SlS.mk ((SlS.mk s.crew s.low (fun _ => none))).crew ((SlS.mk s.crew s.low (fun _ => none))).low (fillN ((SlS.mk s.crew s.low (fun _ => none))).f (((SlS.mk s.crew s.low (fun _ => none))).low + 1) 8))).crew.nodes) ∧ Sl G (.slice A43 s.crew.nodes.length cap44) s.crew.nodes ∧ RowG G 0 0 silence.cells ∧ SlO G bs Oq_ (SlS.mk s.crew s.low Fq) ∧ (ql.drop k2).foldl setQ Fq = ql.foldl setQ (pl.foldl setP (f0 s.low)) ∧ (∀ y, (Fq y).isSome = (f0 s.low y).isSome) ∧ (∀ y u, Fq y = some u → u.q.length ≤ k2)) (fun i => match i with | (k2, Oq_, Fq) => ((((Env.nil.put 0 (.pointer (some ⟨bs, 0, none⟩))).put 53 (.slice A13 ql.length cap14)).put 54 (.int .i64 (((ql.length : Nat) : Int)))).put 55 (.int .i64 (((k2 : Nat) : Int))))) ?_ (0, ((bs, .cells [(.int .i64 s.crew.faults), (.slice A43 s.crew.nodes.length cap44), (.int .i64 s.low), (.map (some l36))].toArray 70 (0, 0)) :: (l36, om37) :: H39), Fp) _ _ ⟨hC, hB, hn6, hpl, hql, hn30, hn40, hsil, ⟨_, _, _, _, _, rfl, hn40, hM41, hH42⟩, (by rw [← hP, List.drop_eq_nil_of_le (Nat.le_of_not_lt (of_decide_eq_false h45))]; rfl), hD, hE⟩) (fun _ ha => ((((ha.start.cons ha (t := 0) rfl).cons ha (t := 53) rfl).cons ha (t := 54) rfl).cons ha (t := 55) rfl))
        rintro ⟨k2, Oq_, Fq⟩ G w N1 IH1 ⟨hC, hB, hn6, hpl, hql, hn30, hn40, hsil, hWOq_, hQq, hD2, hL⟩
        show WC _ _ _ _ ((((Env.nil.put 0 (.pointer (some ⟨bs, 0, none⟩))).put 53 (.slice A13 ql.length cap14)).put 54 (.int .i64 (((ql.length : Nat) : Int)))).put 55 (.int .i64 (((k2 : Nat) : Int)))) w
        obtain ⟨v46, l47, om48, D49, H50, rfl, hn51, hM52, hH53⟩ := hWOq_
        obtain ⟨A54, cap55, rfl⟩ := hn51.form
        replace hC : Cx w0 G0 G w ⟨(List.map (·.1) ((bs, .cells [(.int .i64 s.crew.faults), (.slice A9 s.crew.nodes.length cap10), (.int .i64 s.low), (.map (some l2))].toArray 70 (0, 0)) :: (l2, om3) :: H5)), ((bs, .cells [(.int .i64 s.crew.faults), (.slice A54 s.crew.nodes.length cap55), (.int .i64 s.low), (.map (some l47))].toArray 70 (0, 0)) :: (l47, om48) :: H50)⟩ := hC
        replace hB : Bxs G w w0.heap.size [] ⟨(List.map (·.1) ((bs, .cells [(.int .i64 s.crew.faults), (.slice A9 s.crew.nodes.length cap10), (.int .i64 s.low), (.map (some l2))].toArray 70 (0, 0)) :: (l2, om3) :: H5)), ((bs, .cells [(.int .i64 s.crew.faults), (.slice A54 s.crew.nodes.length cap55), (.int .i64 s.low), (.map (some l47))].toArray 70 (0, 0)) :: (l47, om48) :: H50)⟩ := hB
        refine wcSeq ?_
        refine wcRegion ?_
        refine wlVal (opLssN rfl rfl) rfl ?_
        refine wlThen ?_
        refine wcSeq ?_
        cases h56 : decide (k2 < ql.length)
        · skip
          refine wcCondF rfl ?_
          refine wcExit ?_
          refine wcOf ?_
          refine wcSeq ?_
          refine wcRegion ?_
          refine wlVal (opAssign rfl) rfl ?_
          refine wlThen ?_
          refine wcRet ?_
          exact fun ac_ ha => hQ _ _ _ (results1 ha rfl rfl) ha.df (endT hC ((bs, .cells [(.int .i64 s.crew.faults), (.slice A54 s.crew.nodes.length cap55), (.int .i64 s.low), (.map (some l47))].toArray 70 (0, 0)) :: (l47, om48) :: H50) ⟨[], List.Perm.of_eq (List.append_nil _).symm⟩ ⟨(by have e_ : (restI s pl ql).1 = (SlS.mk s.crew s.low Fq) := (by simp only [restI, h15, h16, cond_true, cond_false, Bool.not_true, Bool.not_false, Bool.and_true, Bool.and_false, Bool.true_and, Bool.false_and, Bool.or_true, Bool.true_or, Bool.or_false, Bool.false_or, zne]; rw [← hQq, List.drop_eq_nil_of_le (Nat.le_of_not_lt (of_decide_eq_false h56))]; rfl); rw [e_]; exact ⟨_, _, _, _, _, rfl, hn51, hM52, hH53⟩), (by simp only [restI, h15, h16, cond_true, cond_false, Bool.not_true, Bool.not_false, Bool.and_true, Bool.and_false, Bool.true_and, Bool.false_and, Bool.or_true, Bool.true_or, Bool.or_false, Bool.false_or, zne])⟩)
        · skip
          refine wcCondT rfl ?_
          refine wcSkip ?_
          refine wcOf ?_
          refine wcSeq ?_
          refine wcBlock ?_
          refine wcSeq ?_
          refine wcRegion ?_
          obtain ⟨x57, hx58⟩ : ∃ y_, ql[k2]? = some y_ := ⟨_, List.getElem?_eq_getElem (of_decide_eq_true h56)⟩
          obtain ⟨b59, o60, row61, hA64, hr62, hi63⟩ := hql.elem hx58; subst hA64
          obtain rfl := hi63
          refine wlVal (opIndexAddr rfl rfl slo33 (of_decide_eq_true h56)) rfl ?_
          refine wlVal (opLoadRow (cs := x57.cells) rfl (RowG.range hC.holds hr62) row43 (by simp [Word.cells, Stand.cells, Wd.cells, Mark.cells])) rfl ?_
          refine wlAlloc hC hB zero43 rfl ?_; intro b65 w hk hC hB
          refine wlStore 0 (vs := x57.cells) (cs := ((.int .i64 0) :: (Dig.zero.cells ++ ((.int .i64 0) :: [])))) (cs' := x57.cells) hC hB rfl rfl rfl sz43 rfl (by simp [Word.cells, Stand.cells, Wd.cells, Mark.cells]) (by simp [Word.cells, Stand.cells, Wd.cells, Mark.cells, Value.oneCell']) (by simp [Word.cells, Stand.cells, Wd.cells, Mark.cells]) (by simp [Word.cells, Stand.cells, Wd.cells, Mark.cells]) rfl ?_; intro w hC hB
          refine wlThen ?_
          refine wcSeq ?_
          refine wcDrawS 8 [0, 1, 3, 7, 0, 16, 63, 127] fmix (by kernel_rfl) (by kernel_rfl) rfl hC hB ?_; intro w hC hB
          refine wdRo 0 rfl (by kernel_rfl) rfl (fun _ => (opMove rfl)) rfl ?_
          refine wdRo 1 rfl (by kernel_rfl) rfl (fun _ => (opNilCheck rfl)) rfl ?_
          refine wdRo 2 rfl (by kernel_rfl) rfl (fun _ => (opFieldAddr rfl fo70_2)) rfl ?_
          refine wdTake 3 rfl (by kernel_rfl) rfl (opLoadOne (v := (.map (some l47))) rfl (hC.hcell 0 rfl (o := 3) rfl) one68) rfl ?_
          refine wdRo 4 rfl (by kernel_rfl) rfl (fun _ => (opFieldAddr rfl fo43_0)) rfl ?_
          refine wdTake 5 rfl (by kernel_rfl) rfl (opLoadOne (v := (.int .i64 x57.seq)) rfl (hB.cell (i := 0) rfl (by simp [Word.cells, Stand.cells, Wd.cells, Mark.cells])) one3) rfl ?_
          obtain ⟨v68, hv69, hr70⟩ := hM52.lookup (keyL_int ui3) mk68 zv59 (isPt' _ (Pt.mk none)) x57.seq
          rcases hf66 : Fq x57.seq with _ | t67
          · skip
            exact (rs_dead hok (qMayG_mem h16) hx58 hD2 hf66 : False).elim
          · skip
            obtain ⟨r71, H72, hD73, hS74, hp75, hR76⟩ := hH53.at_some hf66
            rw [hD73] at hv69
            replace hv69 : v68 = .pointer (some ⟨r71.p, 0, none⟩) := hv69
            subst hv69
            refine wdTake 6 rfl (by kernel_rfl) rfl (opLookupH rfl rfl (hr70 _ _ (hC.heldAt 1 rfl))) rfl ?_
            have hM77 := hS74.pre
            have hM78 := hS74.com
            have hq79 := hS74.q
            have hc80 : r71.c = ((.int .i64 t67.last.view) :: (t67.last.dig.cells ++ ((.int .i64 t67.prep.view) :: (t67.prep.dig.cells ++ ((.map (some r71.m1)) :: ((.map (some r71.m2)) :: (r71.vq :: []))))))) := hS74.c
            replace hC : Cx w0 G0 G w ⟨(List.map (·.1) ((bs, .cells [(.int .i64 s.crew.faults), (.slice A9 s.crew.nodes.length cap10), (.int .i64 s.low), (.map (some l2))].toArray 70 (0, 0)) :: (l2, om3) :: H5)), ((bs, .cells [(.int .i64 s.crew.faults), (.slice A54 s.crew.nodes.length cap55), (.int .i64 s.low), (.map (some l47))].toArray 70 (0, 0)) :: (l47, om48) :: (r71.p, .cells ((.int .i64 t67.last.view) :: (t67.last.dig.cells ++ ((.int .i64 t67.prep.view) :: (t67.prep.dig.cells ++ ((.map (some r71.m1)) :: ((.map (some r71.m2)) :: (r71.vq :: []))))))).toArray 66 (0, 0)) :: (r71.m1, r71.o1) :: (r71.m2, r71.o2) :: (ob r71.oq ++ H72))⟩ := by rw [← hc80]; exact hC.permH ((hp75.cons _).cons _)
            replace hB : Bxs G w w0.heap.size [(b65, 43, x57.cells)] ⟨(List.map (·.1) ((bs, .cells [(.int .i64 s.crew.faults), (.slice A9 s.crew.nodes.length cap10), (.int .i64 s.low), (.map (some l2))].toArray 70 (0, 0)) :: (l2, om3) :: H5)), ((bs, .cells [(.int .i64 s.crew.faults), (.slice A54 s.crew.nodes.length cap55), (.int .i64 s.low), (.map (some l47))].toArray 70 (0, 0)) :: (l47, om48) :: (r71.p, .cells ((.int .i64 t67.last.view) :: (t67.last.dig.cells ++ ((.int .i64 t67.prep.view) :: (t67.prep.dig.cells ++ ((.map (some r71.m1)) :: ((.map (some r71.m2)) :: (r71.vq :: []))))))).toArray 66 (0, 0)) :: (r71.m1, r71.o1) :: (r71.m2, r71.o2) :: (ob r71.oq ++ H72))⟩ := by rw [← hc80]; exact hB.permH ((hp75.cons _).cons _)
            refine wdRo 7 rfl (by kernel_rfl) rfl (fun _ => (opAssign rfl)) rfl ?_
            refine wdDone (by kernel_rfl) ?_
            refine wcOf ?_
            refine wcSeq ?_
            refine wcDrawS 11 [0, 0, 2, 6, 14, 0, 32, 126, 255, 511, 1023] fmix (by kernel_rfl) (by kernel_rfl) rfl hC hB ?_; intro w hC hB
            refine wdRo 0 rfl (by kernel_rfl) rfl (fun _ => (opMove rfl)) rfl ?_
            refine wdRo 1 rfl (by kernel_rfl) rfl (fun _ => (opMove rfl)) rfl ?_
            refine wdRo 2 rfl (by kernel_rfl) rfl (fun _ => (opNilCheck rfl)) rfl ?_
            refine wdRo 3 rfl (by kernel_rfl) rfl (fun _ => (opFieldAddr rfl fo66_4)) rfl ?_
            obtain ⟨A81, cap82, e83⟩ := hq79.form
            rw [e83] at hq79 hC hB
            replace hC := hC.permH (List.perm_append_comm_assoc [(bs, Obj.cells [(Value.int .i64 s.crew.faults), (Value.slice A54 s.crew.nodes.length cap55), (Value.int .i64 s.low), (Value.map (some l47))].toArray 70 (0, 0)), (l47, om48), (r71.p, Obj.cells ((Value.int .i64 t67.last.view) :: (t67.last.dig.cells ++ ((Value.int .i64 t67.prep.view) :: (t67.prep.dig.cells ++ ((Value.map (some r71.m1)) :: ((Value.map (some r71.m2)) :: ((Value.slice A81 t67.q.length cap82) :: []))))))).toArray 66 (0, 0)), (r71.m1, r71.o1), (r71.m2, r71.o2)] (ob r71.oq) H72)
            replace hB := hB.permH (List.perm_append_comm_assoc [(bs, Obj.cells [(Value.int .i64 s.crew.faults), (Value.slice A54 s.crew.nodes.length cap55), (Value.int .i64 s.low), (Value.map (some l47))].toArray 70 (0, 0)), (l47, om48), (r71.p, Obj.cells ((Value.int .i64 t67.last.view) :: (t67.last.dig.cells ++ ((Value.int .i64 t67.prep.view) :: (t67.prep.dig.cells ++ ((Value.map (some r71.m1)) :: ((Value.map (some r71.m2)) :: ((Value.slice A81 t67.q.length cap82) :: []))))))).toArray 66 (0, 0)), (r71.m1, r71.o1), (r71.m2, r71.o2)] (ob r71.oq) H72)
            obtain ⟨hC, hB⟩ := unholdO (o := r71.oq) (L := [(bs, Obj.cells [(Value.int .i64 s.crew.faults), (Value.slice A54 s.crew.nodes.length cap55), (Value.int .i64 s.low), (Value.map (some l47))].toArray 70 (0, 0)), (l47, om48), (r71.p, Obj.cells ((Value.int .i64 t67.last.view) :: (t67.last.dig.cells ++ ((Value.int .i64 t67.prep.view) :: (t67.prep.dig.cells ++ ((Value.map (some r71.m1)) :: ((Value.map (some r71.m2)) :: ((Value.slice A81 t67.q.length cap82) :: []))))))).toArray 66 (0, 0)), (r71.m1, r71.o1), (r71.m2, r71.o2)] ++ H72) (bl := [(b65, 43, x57.cells)]) (r := []) hC (by first | exact hB | simpa using hB)
            replace hC : Cx w0 G0 G w ⟨(List.map (·.1) ((bs, .cells [(.int .i64 s.crew.faults), (.slice A9 s.crew.nodes.length cap10), (.int .i64 s.low), (.map (some l2))].toArray 70 (0, 0)) :: (l2, om3) :: H5)), ((bs, .cells [(.int .i64 s.crew.faults), (.slice A54 s.crew.nodes.length cap55), (.int .i64 s.low), (.map (some l47))].toArray 70 (0, 0)) :: (l47, om48) :: (r71.p, .cells ((.int .i64 t67.last.view) :: (t67.last.dig.cells ++ ((.int .i64 t67.prep.view) :: (t67.prep.dig.cells ++ ((.map (some r71.m1)) :: ((.map (some r71.m2)) :: ((.slice A81 t67.q.length cap82) :: []))))))).toArray 66 (0, 0)) :: (r71.m1, r71.o1) :: (r71.m2, r71.o2) :: H72)⟩ := hC
            replace hB : Bxs G w w0.heap.size ([(b65, 43, x57.cells)] ++ (Option.toList r71.oq ++ [])) ⟨(List.map (·.1) ((bs, .cells [(.int .i64 s.crew.faults), (.slice A9 s.crew.nodes.length cap10), (.int .i64 s.low), (.map (some l2))].toArray 70 (0, 0)) :: (l2, om3) :: H5)), ((bs, .cells [(.int .i64 s.crew.faults), (.slice A54 s.crew.nodes.length cap55), (.int .i64 s.low), (.map (some l47))].toArray 70 (0, 0)) :: (l47, om48) :: (r71.p, .cells ((.int .i64 t67.last.view) :: (t67.last.dig.cells ++ ((.int .i64 t67.prep.view) :: (t67.prep.dig.cells ++ ((.map (some r71.m1)) :: ((.map (some r71.m2)) :: ((.slice A81 t67.q.length cap82) :: []))))))).toArray 66 (0, 0)) :: (r71.m1, r71.o1) :: (r71.m2, r71.o2) :: H72)⟩ := hB
            refine wdTake 4 rfl (by kernel_rfl) rfl (opLoadOne (v := (.slice A81 t67.q.length cap82)) rfl (hC.hcell 2 rfl (o := 68) (by simp [Word.cells, Stand.cells, Wd.cells, Mark.cells])) one33) rfl ?_
            refine wdTake 5 rfl (by kernel_rfl) rfl (opLoadRow (cs := x57.cells) rfl (hB.range (i := 0) (m := 34) rfl (by simp [Word.cells, Stand.cells, Wd.cells, Mark.cells])) row43 (by simp [Word.cells, Stand.cells, Wd.cells, Mark.cells])) rfl ?_
            refine wdAll [6] (by kernel_rfl) rfl ⟨wd1 rfl ?_, trivial⟩
            intro hGd
            refine wlBuildSlice (α := Stand) (ps := [(0, .tmp 71)]) (xs := [x57]) (rows := [x57.cells]) elo33 rfl rfl hC hB rfl rfl rfl ⟨rfl, trivial⟩ rfl ?_; intro b84 G w hk hC hB hs85
            replace hn6 := hn6.mono hk.gle; replace hpl := hpl.mono hk.gle; replace hql := hql.mono hk.gle; replace hn30 := hn30.mono hk.gle; replace hn40 := hn40.mono hk.gle; replace hn51 := hn51.mono hk.gle; replace hM52 := hM52.mono hk.gle; replace hr62 := hr62.mono hk.gle; replace hM77 := hM77.mono hk.gle; replace hM78 := hM78.mono hk.gle; replace hR76 := hR76.mono hk.gle; replace hq79 := hq79.mono hk.gle
            replace hsil := hsil.mono hk.gle
            refine wdNext hGd rfl (kpDrop rfl (kpKeep rfl kpNil)) (Tk.cons (p := (_, fun w => OpVal _ _ _ w _ _)) (opLoadOne (v := (.slice A81 t67.q.length cap82)) rfl (hC.hcell 2 rfl (o := 68) (by simp [Word.cells, Stand.cells, Wd.cells, Mark.cells])) one33) (Tk.nil _)) ?_
            refine wdAll [7] (by kernel_rfl) rfl ⟨wd1 rfl ?_, trivial⟩
            intro hGd
            refine wlAppend (α := Stand) (bl := [(b65, 43, x57.cells)]) (o := r71.oq) (r := []) elo33 hC hB rfl rfl hq79 hs85 (by have q1 := hL _ _ hf66; have q2 := hlq; have q3 := of_decide_eq_true h56; simp; omega) rfl rfl ?_; intro A86 cap87 o88 w hC hB hO89
            refine wdNext hGd rfl (kpDrop rfl kpNil) (Tk.nil _) ?_
            refine wdRo 8 rfl (by kernel_rfl) rfl (fun _ => (opNilCheck rfl)) rfl ?_
            refine wdRo 9 rfl (by kernel_rfl) rfl (fun _ => (opFieldAddr rfl fo66_4)) rfl ?_
            refine wdAll [10] (by kernel_rfl) rfl ⟨wd1 rfl ?_, trivial⟩
            intro hGd
            obtain ⟨hC, hB⟩ := unhold hC hB (i := 2) rfl
            refine wlStore 0 (vs := [(.slice A86 (((t67.q ++ [x57])).length) cap87)]) (cs := ((.int .i64 t67.last.view) :: (t67.last.dig.cells ++ ((.int .i64 t67.prep.view) :: (t67.prep.dig.cells ++ ((.map (some r71.m1)) :: ((.map (some r71.m2)) :: ((.slice A81 t67.q.length cap82) :: [])))))))) (cs' := ((.int .i64 t67.last.view) :: (t67.last.dig.cells ++ ((.int .i64 t67.prep.view) :: (t67.prep.dig.cells ++ ((.map (some r71.m1)) :: ((.map (some r71.m2)) :: ((.slice A86 (((t67.q ++ [x57])).length) cap87) :: [])))))))) hC hB rfl rfl rfl sz33 rfl rfl rfl (by simp [Word.cells, Stand.cells, Wd.cells, Mark.cells]) (by simp [Word.cells, Stand.cells, Wd.cells, Mark.cells]) rfl ?_; intro w hC hB
            obtain ⟨hC, hB⟩ := hold hC hB (i := 0) rfl
            replace hC : Cx w0 G0 G w ⟨(List.map (·.1) ((bs, .cells [(.int .i64 s.crew.faults), (.slice A9 s.crew.nodes.length cap10), (.int .i64 s.low), (.map (some l2))].toArray 70 (0, 0)) :: (l2, om3) :: H5)), ((r71.p, .cells ((.int .i64 t67.last.view) :: (t67.last.dig.cells ++ ((.int .i64 t67.prep.view) :: (t67.prep.dig.cells ++ ((.map (some r71.m1)) :: ((.map (some r71.m2)) :: ((.slice A86 (((t67.q ++ [x57])).length) cap87) :: []))))))).toArray 66 (0, 0)) :: (bs, .cells [(.int .i64 s.crew.faults), (.slice A54 s.crew.nodes.length cap55), (.int .i64 s.low), (.map (some l47))].toArray 70 (0, 0)) :: (l47, om48) :: (r71.m1, r71.o1) :: (r71.m2, r71.o2) :: H72)⟩ := hC
            replace hB : Bxs G w w0.heap.size ([(b65, 43, x57.cells)] ++ (Option.toList o88 ++ [])) ⟨(List.map (·.1) ((bs, .cells [(.int .i64 s.crew.faults), (.slice A9 s.crew.nodes.length cap10), (.int .i64 s.low), (.map (some l2))].toArray 70 (0, 0)) :: (l2, om3) :: H5)), ((r71.p, .cells ((.int .i64 t67.last.view) :: (t67.last.dig.cells ++ ((.int .i64 t67.prep.view) :: (t67.prep.dig.cells ++ ((.map (some r71.m1)) :: ((.map (some r71.m2)) :: ((.slice A86 (((t67.q ++ [x57])).length) cap87) :: []))))))).toArray 66 (0, 0)) :: (bs, .cells [(.int .i64 s.crew.faults), (.slice A54 s.crew.nodes.length cap55), (.int .i64 s.low), (.map (some l47))].toArray 70 (0, 0)) :: (l47, om48) :: (r71.m1, r71.o1) :: (r71.m2, r71.o2) :: H72)⟩ := hB
            replace hC := hC.permH (List.perm_middle (l₁ := [(bs, Obj.cells [(.int .i64 s.crew.faults), (.slice A54 s.crew.nodes.length cap55), (.int .i64 s.low), (.map (some l47))].toArray 70 (0, 0)), (l47, om48)]) (l₂ := ((r71.m1, r71.o1) :: (r71.m2, r71.o2) :: H72))).symm
            replace hB := hB.permH (List.perm_middle (l₁ := [(bs, Obj.cells [(.int .i64 s.crew.faults), (.slice A54 s.crew.nodes.length cap55), (.int .i64 s.low), (.map (some l47))].toArray 70 (0, 0)), (l47, om48)]) (l₂ := ((r71.m1, r71.o1) :: (r71.m2, r71.o2) :: H72))).symm
            replace hC : Cx w0 G0 G w ⟨(List.map (·.1) ((bs, .cells [(.int .i64 s.crew.faults), (.slice A9 s.crew.nodes.length cap10), (.int .i64 s.low), (.map (some l2))].toArray 70 (0, 0)) :: (l2, om3) :: H5)), ((bs, .cells [(.int .i64 s.crew.faults), (.slice A54 s.crew.nodes.length cap55), (.int .i64 s.low), (.map (some l47))].toArray 70 (0, 0)) :: (l47, om48) :: (r71.p, .cells ((.int .i64 t67.last.view) :: (t67.last.dig.cells ++ ((.int .i64 t67.prep.view) :: (t67.prep.dig.cells ++ ((.map (some r71.m1)) :: ((.map (some r71.m2)) :: ((.slice A86 (((t67.q ++ [x57])).length) cap87) :: []))))))).toArray 66 (0, 0)) :: (r71.m1, r71.o1) :: (r71.m2, r71.o2) :: H72)⟩ := hC
            replace hB : Bxs G w w0.heap.size ([(b65, 43, x57.cells)] ++ (Option.toList o88 ++ [])) ⟨(List.map (·.1) ((bs, .cells [(.int .i64 s.crew.faults), (.slice A9 s.crew.nodes.length cap10), (.int .i64 s.low), (.map (some l2))].toArray 70 (0, 0)) :: (l2, om3) :: H5)), ((bs, .cells [(.int .i64 s.crew.faults), (.slice A54 s.crew.nodes.length cap55), (.int .i64 s.low), (.map (some l47))].toArray 70 (0, 0)) :: (l47, om48) :: (r71.p, .cells ((.int .i64 t67.last.view) :: (t67.last.dig.cells ++ ((.int .i64 t67.prep.view) :: (t67.prep.dig.cells ++ ((.map (some r71.m1)) :: ((.map (some r71.m2)) :: ((.slice A86 (((t67.q ++ [x57])).length) cap87) :: []))))))).toArray 66 (0, 0)) :: (r71.m1, r71.o1) :: (r71.m2, r71.o2) :: H72)⟩ := hB
            refine wdNext hGd rfl kpNil (Tk.nil _) ?_
            refine wdDone (by kernel_rfl) ?_
            refine wcOf ?_
            refine wcRegion ?_
            refine wlVal (opMove rfl) rfl ?_
            refine wlVal (opFieldAddr rfl fo43_2) rfl ?_
            refine wlVal (opLoadOne (v := (.int .i64 x57.view)) rfl (hB.cell (i := 0) rfl (by simp [Word.cells, Stand.cells, Wd.cells, Mark.cells])) one3) rfl ?_
            refine wlVal (opFieldAddr rfl fo43_1) rfl ?_
            refine wlVal (opLoadRow (cs := x57.dig.cells) rfl (hB.range (i := 0) (m := 32) rfl (by simp [Word.cells, Stand.cells, Wd.cells, Mark.cells])) row38 (by simp [Word.cells, Stand.cells, Wd.cells, Mark.cells])) rfl ?_
            refine wlVal (opBuild (ps := [(0, .tmp 78), (1, .tmp 80)]) (cs := ((.int .i64 x57.view) :: (x57.dig.cells ++ []))) so63 zero63 rfl rfl (by first | (simp [buildCells, Value.cells]; done) | simp [buildCells, Value.cells, Word.cells, Stand.cells, Wd.cells, Mark.cells])) rfl ?_
            refine wlVal (opNilCheck rfl) rfl ?_
            refine wlVal (opFieldAddr rfl fo66_0) rfl ?_
            obtain ⟨hC, hB⟩ := unhold hC hB (i := 2) rfl
            refine wlStore 0 (vs := ((.int .i64 x57.view) :: (x57.dig.cells ++ []))) (cs := ((.int .i64 t67.last.view) :: (t67.last.dig.cells ++ ((.int .i64 t67.prep.view) :: (t67.prep.dig.cells ++ ((.map (some r71.m1)) :: ((.map (some r71.m2)) :: ((.slice A86 (((t67.q ++ [x57])).length) cap87) :: [])))))))) (cs' := ((.int .i64 x57.view) :: (x57.dig.cells ++ ((.int .i64 t67.prep.view) :: (t67.prep.dig.cells ++ ((.map (some r71.m1)) :: ((.map (some r71.m2)) :: ((.slice A86 (((t67.q ++ [x57])).length) cap87) :: [])))))))) hC hB rfl rfl rfl sz63 rfl (by simp [Word.cells, Stand.cells, Wd.cells, Mark.cells]) (by simp [Word.cells, Stand.cells, Wd.cells, Mark.cells, Value.oneCell']) (by simp [Word.cells, Stand.cells, Wd.cells, Mark.cells]) (by simp [Word.cells, Stand.cells, Wd.cells, Mark.cells]) rfl ?_; intro w hC hB
            obtain ⟨hC, hB⟩ := hold hC hB (i := 0) rfl
            replace hC : Cx w0 G0 G w ⟨(List.map (·.1) ((bs, .cells [(.int .i64 s.crew.faults), (.slice A9 s.crew.nodes.length cap10), (.int .i64 s.low), (.map (some l2))].toArray 70 (0, 0)) :: (l2, om3) :: H5)), ((r71.p, .cells ((.int .i64 x57.view) :: (x57.dig.cells ++ ((.int .i64 t67.prep.view) :: (t67.prep.dig.cells ++ ((.map (some r71.m1)) :: ((.map (some r71.m2)) :: ((.slice A86 (((t67.q ++ [x57])).length) cap87) :: []))))))).toArray 66 (0, 0)) :: (bs, .cells [(.int .i64 s.crew.faults), (.slice A54 s.crew.nodes.length cap55), (.int .i64 s.low), (.map (some l47))].toArray 70 (0, 0)) :: (l47, om48) :: (r71.m1, r71.o1) :: (r71.m2, r71.o2) :: H72)⟩ := hC
            replace hB : Bxs G w w0.heap.size ([(b65, 43, x57.cells)] ++ (Option.toList o88 ++ [])) ⟨(List.map (·.1) ((bs, .cells [(.int .i64 s.crew.faults), (.slice A9 s.crew.nodes.length cap10), (.int .i64 s.low), (.map (some l2))].toArray 70 (0, 0)) :: (l2, om3) :: H5)), ((r71.p, .cells ((.int .i64 x57.view) :: (x57.dig.cells ++ ((.int .i64 t67.prep.view) :: (t67.prep.dig.cells ++ ((.map (some r71.m1)) :: ((.map (some r71.m2)) :: ((.slice A86 (((t67.q ++ [x57])).length) cap87) :: []))))))).toArray 66 (0, 0)) :: (bs, .cells [(.int .i64 s.crew.faults), (.slice A54 s.crew.nodes.length cap55), (.int .i64 s.low), (.map (some l47))].toArray 70 (0, 0)) :: (l47, om48) :: (r71.m1, r71.o1) :: (r71.m2, r71.o2) :: H72)⟩ := hB
            replace hC := hC.permH (List.perm_middle (l₁ := [(bs, Obj.cells [(.int .i64 s.crew.faults), (.slice A54 s.crew.nodes.length cap55), (.int .i64 s.low), (.map (some l47))].toArray 70 (0, 0)), (l47, om48)]) (l₂ := ((r71.m1, r71.o1) :: (r71.m2, r71.o2) :: H72))).symm
            replace hB := hB.permH (List.perm_middle (l₁ := [(bs, Obj.cells [(.int .i64 s.crew.faults), (.slice A54 s.crew.nodes.length cap55), (.int .i64 s.low), (.map (some l47))].toArray 70 (0, 0)), (l47, om48)]) (l₂ := ((r71.m1, r71.o1) :: (r71.m2, r71.o2) :: H72))).symm
            replace hC : Cx w0 G0 G w ⟨(List.map (·.1) ((bs, .cells [(.int .i64 s.crew.faults), (.slice A9 s.crew.nodes.length cap10), (.int .i64 s.low), (.map (some l2))].toArray 70 (0, 0)) :: (l2, om3) :: H5)), ((bs, .cells [(.int .i64 s.crew.faults), (.slice A54 s.crew.nodes.length cap55), (.int .i64 s.low), (.map (some l47))].toArray 70 (0, 0)) :: (l47, om48) :: (r71.p, .cells ((.int .i64 x57.view) :: (x57.dig.cells ++ ((.int .i64 t67.prep.view) :: (t67.prep.dig.cells ++ ((.map (some r71.m1)) :: ((.map (some r71.m2)) :: ((.slice A86 (((t67.q ++ [x57])).length) cap87) :: []))))))).toArray 66 (0, 0)) :: (r71.m1, r71.o1) :: (r71.m2, r71.o2) :: H72)⟩ := hC
            replace hB : Bxs G w w0.heap.size ([(b65, 43, x57.cells)] ++ (Option.toList o88 ++ [])) ⟨(List.map (·.1) ((bs, .cells [(.int .i64 s.crew.faults), (.slice A9 s.crew.nodes.length cap10), (.int .i64 s.low), (.map (some l2))].toArray 70 (0, 0)) :: (l2, om3) :: H5)), ((bs, .cells [(.int .i64 s.crew.faults), (.slice A54 s.crew.nodes.length cap55), (.int .i64 s.low), (.map (some l47))].toArray 70 (0, 0)) :: (l47, om48) :: (r71.p, .cells ((.int .i64 x57.view) :: (x57.dig.cells ++ ((.int .i64 t67.prep.view) :: (t67.prep.dig.cells ++ ((.map (some r71.m1)) :: ((.map (some r71.m2)) :: ((.slice A86 (((t67.q ++ [x57])).length) cap87) :: []))))))).toArray 66 (0, 0)) :: (r71.m1, r71.o1) :: (r71.m2, r71.o2) :: H72)⟩ := hB
            refine wlNil ?_
            refine wcOf ?_
            refine wcRegion ?_
            refine wlVal (opIncr rfl rfl (incr_ok (of_decide_eq_true h56) hql.le)) rfl ?_
            refine wlVal (opMove rfl) rfl ?_
            refine wlRound ?_
            obtain ⟨hC, hB⟩ := holdO (o := o88) (bl := [(b65, 43, x57.cells)]) (r := []) hC hB
            replace hC := hC.permH (List.perm_append_comm_assoc (ob o88) [(bs, Obj.cells [(Value.int .i64 s.crew.faults), (Value.slice A54 s.crew.nodes.length cap55), (Value.int .i64 s.low), (Value.map (some l47))].toArray 70 (0, 0)), (l47, om48), (r71.p, Obj.cells ((Value.int .i64 x57.view) :: (x57.dig.cells ++ ((Value.int .i64 t67.prep.view) :: (t67.prep.dig.cells ++ ((Value.map (some r71.m1)) :: ((Value.map (some r71.m2)) :: ((Value.slice A86 (((t67.q ++ [x57])).length) cap87) :: []))))))).toArray 66 (0, 0)), (r71.m1, r71.o1), (r71.m2, r71.o2)] H72)
            replace hB := hB.permH (List.perm_append_comm_assoc (ob o88) [(bs, Obj.cells [(Value.int .i64 s.crew.faults), (Value.slice A54 s.crew.nodes.length cap55), (Value.int .i64 s.low), (Value.map (some l47))].toArray 70 (0, 0)), (l47, om48), (r71.p, Obj.cells ((Value.int .i64 x57.view) :: (x57.dig.cells ++ ((Value.int .i64 t67.prep.view) :: (t67.prep.dig.cells ++ ((Value.map (some r71.m1)) :: ((Value.map (some r71.m2)) :: ((Value.slice A86 (((t67.q ++ [x57])).length) cap87) :: []))))))).toArray 66 (0, 0)), (r71.m1, r71.o1), (r71.m2, r71.o2)] H72)
            have hq90 := hO89
            have hl91 : ((t67.q ++ [x57])).length ≤ maxL := (by have q1 := hL _ _ hf66; have q2 := hlq; have q3 := of_decide_eq_true h56; unfold maxL; simp; omega)
            replace hC : Cx w0 G0 G w ⟨(List.map (·.1) ((bs, .cells [(.int .i64 s.crew.faults), (.slice A9 s.crew.nodes.length cap10), (.int .i64 s.low), (.map (some l2))].toArray 70 (0, 0)) :: (l2, om3) :: H5)), ((bs, .cells [(.int .i64 s.crew.faults), (.slice A54 s.crew.nodes.length cap55), (.int .i64 s.low), (.map (some l47))].toArray 70 (0, 0)) :: (l47, om48) :: (r71.p, .cells ((.int .i64 x57.view) :: (x57.dig.cells ++ ((.int .i64 t67.prep.view) :: (t67.prep.dig.cells ++ ((.map (some r71.m1)) :: ((.map (some r71.m2)) :: ((.slice A86 (((t67.q ++ [x57])).length) cap87) :: []))))))).toArray 66 (0, 0)) :: (r71.m1, r71.o1) :: (r71.m2, r71.o2) :: (ob o88 ++ H72))⟩ := hC
            replace hB : Bxs G w w0.heap.size [(b65, 43, x57.cells)] ⟨(List.map (·.1) ((bs, .cells [(.int .i64 s.crew.faults), (.slice A9 s.crew.nodes.length cap10), (.int .i64 s.low), (.map (some l2))].toArray 70 (0, 0)) :: (l2, om3) :: H5)), ((bs, .cells [(.int .i64 s.crew.faults), (.slice A54 s.crew.nodes.length cap55), (.int .i64 s.low), (.map (some l47))].toArray 70 (0, 0)) :: (l47, om48) :: (r71.p, .cells ((.int .i64 x57.view) :: (x57.dig.cells ++ ((.int .i64 t67.prep.view) :: (t67.prep.dig.cells ++ ((.map (some r71.m1)) :: ((.map (some r71.m2)) :: ((.slice A86 (((t67.q ++ [x57])).length) cap87) :: []))))))).toArray 66 (0, 0)) :: (r71.m1, r71.o1) :: (r71.m2, r71.o2) :: (ob o88 ++ H72))⟩ := hB
            exact (IH1 (k2 + 1, ((bs, Obj.cells [(Value.int .i64 s.crew.faults), (Value.slice A54 s.crew.nodes.length cap55), (Value.int .i64 s.low), (Value.map (some l47))].toArray 70 (0, 0)) :: (l47, om48) :: (r71.p, Obj.cells ((Value.int .i64 x57.view) :: (x57.dig.cells ++ ((Value.int .i64 t67.prep.view) :: (t67.prep.dig.cells ++ ((Value.map (some r71.m1)) :: ((Value.map (some r71.m2)) :: ((Value.slice A86 (((t67.q ++ [x57])).length) cap87) :: []))))))).toArray 66 (0, 0)) :: (r71.m1, r71.o1) :: (r71.m2, r71.o2) :: (ob o88 ++ H72)), (upd Fq x57.seq (SlotS.mk ((Wd.mk x57.view x57.dig)) t67.prep t67.pre t67.com ((t67.q ++ [x57]))))) _ _ ⟨hC, hB.tail, hn6, hpl, hql, hn30, hn40, hsil, ⟨_, _, _, _, _, rfl, hn51, hM52, (hR76 _ ⟨r71.p, r71.m1, r71.m2, ((Value.int .i64 x57.view) :: (x57.dig.cells ++ ((Value.int .i64 t67.prep.view) :: (t67.prep.dig.cells ++ ((Value.map (some r71.m1)) :: ((Value.map (some r71.m2)) :: ((Value.slice A86 (((t67.q ++ [x57])).length) cap87) :: []))))))), r71.o1, r71.o2, (.slice A86 (((t67.q ++ [x57])).length) cap87), o88⟩ (SlotS.mk ((Wd.mk x57.view x57.dig)) t67.prep t67.pre t67.com ((t67.q ++ [x57]))) (fun _ _ h => h) rfl ⟨rfl, hM77, hM78, hq90, hl91⟩)⟩, (by rw [← hQq, drop_get hx58, List.foldl_cons]; simp only [setQ, hf66]), (fun y => by rw [upd_isSome hf66 y]; exact hD2 y), (upd_q (fun y u h => Nat.le_succ_of_le (hL y u h)) (by have q1 := hL _ _ hf66; simp; omega))⟩ (by have := of_decide_eq_true h56; simp; omega)).sub (fun _ ha => ((((ha.start.cons ha (t := 0) rfl).cons ha (t := 53) rfl).cons ha (t := 54) rfl).cons ha (t := 55) rfl))
      · skip
        refine wcCondT rfl ?_
        refine wcSkip ?_
        refine wcOf ?_
        refine wcSeq ?_
        refine wcBlock ?_
        refine wcSeq ?_
        refine wcRegion ?_
        obtain ⟨x92, hx93⟩ : ∃ y_, pl[k]? = some y_ := ⟨_, List.getElem?_eq_getElem (of_decide_eq_true h45)⟩
        obtain ⟨b94, o95, row96, hA99, hr97, hi98⟩ := hpl.elem hx93; subst hA99
        obtain rfl := hi98
        refine wlVal (opIndexAddr rfl rfl slo33 (of_decide_eq_true h45)) rfl ?_
        refine wlVal (opLoadRow (cs := x92.cells) rfl (RowG.range hC.holds hr97) row43 (by simp [Word.cells, Stand.cells, Wd.cells, Mark.cells])) rfl ?_
        refine wlAlloc hC hB zero43 rfl ?_; intro b100 w hk hC hB
        refine wlStore 0 (vs := x92.cells) (cs := ((.int .i64 0) :: (Dig.zero.cells ++ ((.int .i64 0) :: [])))) (cs' := x92.cells) hC hB rfl rfl rfl sz43 rfl (by simp [Word.cells, Stand.cells, Wd.cells, Mark.cells]) (by simp [Word.cells, Stand.cells, Wd.cells, Mark.cells, Value.oneCell']) (by simp [Word.cells, Stand.cells, Wd.cells, Mark.cells]) (by simp [Word.cells, Stand.cells, Wd.cells, Mark.cells]) rfl ?_; intro w hC hB
        refine wlThen ?_
        refine wcDrawS 15 [0, 1, 3, 7, 0, 16, 63, 0, 128, 0, 512, 1920, 4095, 8191, 16383] fmix (by kernel_rfl) (by kernel_rfl) rfl hC hB ?_; intro w hC hB
        refine wdRo 0 rfl (by kernel_rfl) rfl (fun _ => (opMove rfl)) rfl ?_
        refine wdRo 1 rfl (by kernel_rfl) rfl (fun _ => (opNilCheck rfl)) rfl ?_
        refine wdRo 2 rfl (by kernel_rfl) rfl (fun _ => (opFieldAddr rfl fo70_2)) rfl ?_
        refine wdTake 3 rfl (by kernel_rfl) rfl (opLoadOne (v := (.map (some l36))) rfl (hC.hcell 0 rfl (o := 3) rfl) one68) rfl ?_
        refine wdRo 4 rfl (by kernel_rfl) rfl (fun _ => (opFieldAddr rfl fo43_0)) rfl ?_
        refine wdTake 5 rfl (by kernel_rfl) rfl (opLoadOne (v := (.int .i64 x92.seq)) rfl (hB.cell (i := 0) rfl (by simp [Word.cells, Stand.cells, Wd.cells, Mark.cells])) one3) rfl ?_
        obtain ⟨v103, hv104, hr105⟩ := hM41.lookup (keyL_int ui3) mk68 zv59 (isPt' _ (Pt.mk none)) x92.seq
        rcases hf101 : Fp x92.seq with _ | t102
        · skip
          exact (rs_dead hok (pMayG_mem h15) hx93 hD hf101 : False).elim
        · skip
          obtain ⟨r106, H107, hD108, hS109, hp110, hR111⟩ := hH42.at_some hf101
          rw [hD108] at hv104
          replace hv104 : v103 = .pointer (some ⟨r106.p, 0, none⟩) := hv104
          subst hv104
          refine wdTake 6 rfl (by kernel_rfl) rfl (opLookupH rfl rfl (hr105 _ _ (hC.heldAt 1 rfl))) rfl ?_
          have hM112 := hS109.pre
          have hM113 := hS109.com
          have hq114 := hS109.q
          have hc115 : r106.c = ((.int .i64 t102.last.view) :: (t102.last.dig.cells ++ ((.int .i64 t102.prep.view) :: (t102.prep.dig.cells ++ ((.map (some r106.m1)) :: ((.map (some r106.m2)) :: (r106.vq :: []))))))) := hS109.c
          replace hC : Cx w0 G0 G w ⟨(List.map (·.1) ((bs, .cells [(.int .i64 s.crew.faults), (.slice A9 s.crew.nodes.length cap10), (.int .i64 s.low), (.map (some l2))].toArray 70 (0, 0)) :: (l2, om3) :: H5)), ((bs, .cells [(.int .i64 s.crew.faults), (.slice A43 s.crew.nodes.length cap44), (.int .i64 s.low), (.map (some l36))].toArray 70 (0, 0)) :: (l36, om37) :: (r106.p, .cells ((.int .i64 t102.last.view) :: (t102.last.dig.cells ++ ((.int .i64 t102.prep.view) :: (t102.prep.dig.cells ++ ((.map (some r106.m1)) :: ((.map (some r106.m2)) :: (r106.vq :: []))))))).toArray 66 (0, 0)) :: (r106.m1, r106.o1) :: (r106.m2, r106.o2) :: (ob r106.oq ++ H107))⟩ := by rw [← hc115]; exact hC.permH ((hp110.cons _).cons _)
          replace hB : Bxs G w w0.heap.size [(b100, 43, x92.cells)] ⟨(List.map (·.1) ((bs, .cells [(.int .i64 s.crew.faults), (.slice A9 s.crew.nodes.length cap10), (.int .i64 s.low), (.map (some l2))].toArray 70 (0, 0)) :: (l2, om3) :: H5)), ((bs, .cells [(.int .i64 s.crew.faults), (.slice A43 s.crew.nodes.length cap44), (.int .i64 s.low), (.map (some l36))].toArray 70 (0, 0)) :: (l36, om37) :: (r106.p, .cells ((.int .i64 t102.last.view) :: (t102.last.dig.cells ++ ((.int .i64 t102.prep.view) :: (t102.prep.dig.cells ++ ((.map (some r106.m1)) :: ((.map (some r106.m2)) :: (r106.vq :: []))))))).toArray 66 (0, 0)) :: (r106.m1, r106.o1) :: (r106.m2, r106.o2) :: (ob r106.oq ++ H107))⟩ := by rw [← hc115]; exact hB.permH ((hp110.cons _).cons _)
          refine wdRo 7 rfl (by kernel_rfl) rfl (fun _ => (opFieldAddr rfl fo43_2)) rfl ?_
          refine wdTake 8 rfl (by kernel_rfl) rfl (opLoadOne (v := (.int .i64 x92.view)) rfl (hB.cell (i := 0) rfl (by simp [Word.cells, Stand.cells, Wd.cells, Mark.cells])) one3) rfl ?_
          refine wdRo 9 rfl (by kernel_rfl) rfl (fun _ => (opFieldAddr rfl fo43_1)) rfl ?_
          refine wdTake 10 rfl (by kernel_rfl) rfl (opLoadRow (cs := x92.dig.cells) rfl (hB.range (i := 0) (m := 32) rfl (by simp [Word.cells, Stand.cells, Wd.cells, Mark.cells])) row38 (by simp [Word.cells, Stand.cells, Wd.cells, Mark.cells])) rfl ?_
          refine wdRo 11 rfl (by kernel_rfl) rfl (fun _ => (opBuild (ps := [(0, .tmp 46), (1, .tmp 48)]) (cs := ((.int .i64 x92.view) :: (x92.dig.cells ++ []))) so63 zero63 rfl rfl (by first | (simp [buildCells, Value.cells]; done) | simp [buildCells, Value.cells, Word.cells, Stand.cells, Wd.cells, Mark.cells]))) rfl ?_
          refine wdRo 12 rfl (by kernel_rfl) rfl (fun _ => (opNilCheck rfl)) rfl ?_
          refine wdRo 13 rfl (by kernel_rfl) rfl (fun _ => (opFieldAddr rfl fo66_1)) rfl ?_
          refine wdAll [14] (by kernel_rfl) rfl ⟨wd1 rfl ?_, trivial⟩
          intro hGd
          obtain ⟨hC, hB⟩ := unhold hC hB (i := 2) rfl
          refine wlStore 0 (vs := ((.int .i64 x92.view) :: (x92.dig.cells ++ []))) (cs := ((.int .i64 t102.last.view) :: (t102.last.dig.cells ++ ((.int .i64 t102.prep.view) :: (t102.prep.dig.cells ++ ((.map (some r106.m1)) :: ((.map (some r106.m2)) :: (r106.vq :: [])))))))) (cs' := ((.int .i64 t102.last.view) :: (t102.last.dig.cells ++ ((.int .i64 x92.view) :: (x92.dig.cells ++ ((.map (some r106.m1)) :: ((.map (some r106.m2)) :: (r106.vq :: [])))))))) hC hB rfl rfl rfl sz63 rfl (by simp [Word.cells, Stand.cells, Wd.cells, Mark.cells]) (by simp [Word.cells, Stand.cells, Wd.cells, Mark.cells, Value.oneCell']) (by simp [Word.cells, Stand.cells, Wd.cells, Mark.cells]) (by simp [Word.cells, Stand.cells, Wd.cells, Mark.cells]) rfl ?_; intro w hC hB
          obtain ⟨hC, hB⟩ := hold hC hB (i := 0) rfl
          replace hC : Cx w0 G0 G w ⟨(List.map (·.1) ((bs, .cells [(.int .i64 s.crew.faults), (.slice A9 s.crew.nodes.length cap10), (.int .i64 s.low), (.map (some l2))].toArray 70 (0, 0)) :: (l2, om3) :: H5)), ((r106.p, .cells ((.int .i64 t102.last.view) :: (t102.last.dig.cells ++ ((.int .i64 x92.view) :: (x92.dig.cells ++ ((.map (some r106.m1)) :: ((.map (some r106.m2)) :: (r106.vq :: []))))))).toArray 66 (0, 0)) :: (bs, .cells [(.int .i64 s.crew.faults), (.slice A43 s.crew.nodes.length cap44), (.int .i64 s.low), (.map (some l36))].toArray 70 (0, 0)) :: (l36, om37) :: (r106.m1, r106.o1) :: (r106.m2, r106.o2) :: (ob r106.oq ++ H107))⟩ := hC
          replace hB : Bxs G w w0.heap.size [(b100, 43, x92.cells)] ⟨(List.map (·.1) ((bs, .cells [(.int .i64 s.crew.faults), (.slice A9 s.crew.nodes.length cap10), (.int .i64 s.low), (.map (some l2))].toArray 70 (0, 0)) :: (l2, om3) :: H5)), ((r106.p, .cells ((.int .i64 t102.last.view) :: (t102.last.dig.cells ++ ((.int .i64 x92.view) :: (x92.dig.cells ++ ((.map (some r106.m1)) :: ((.map (some r106.m2)) :: (r106.vq :: []))))))).toArray 66 (0, 0)) :: (bs, .cells [(.int .i64 s.crew.faults), (.slice A43 s.crew.nodes.length cap44), (.int .i64 s.low), (.map (some l36))].toArray 70 (0, 0)) :: (l36, om37) :: (r106.m1, r106.o1) :: (r106.m2, r106.o2) :: (ob r106.oq ++ H107))⟩ := hB
          replace hC := hC.permH (List.perm_middle (l₁ := [(bs, Obj.cells [(.int .i64 s.crew.faults), (.slice A43 s.crew.nodes.length cap44), (.int .i64 s.low), (.map (some l36))].toArray 70 (0, 0)), (l36, om37)]) (l₂ := ((r106.m1, r106.o1) :: (r106.m2, r106.o2) :: (ob r106.oq ++ H107)))).symm
          replace hB := hB.permH (List.perm_middle (l₁ := [(bs, Obj.cells [(.int .i64 s.crew.faults), (.slice A43 s.crew.nodes.length cap44), (.int .i64 s.low), (.map (some l36))].toArray 70 (0, 0)), (l36, om37)]) (l₂ := ((r106.m1, r106.o1) :: (r106.m2, r106.o2) :: (ob r106.oq ++ H107)))).symm
          replace hC : Cx w0 G0 G w ⟨(List.map (·.1) ((bs, .cells [(.int .i64 s.crew.faults), (.slice A9 s.crew.nodes.length cap10), (.int .i64 s.low), (.map (some l2))].toArray 70 (0, 0)) :: (l2, om3) :: H5)), ((bs, .cells [(.int .i64 s.crew.faults), (.slice A43 s.crew.nodes.length cap44), (.int .i64 s.low), (.map (some l36))].toArray 70 (0, 0)) :: (l36, om37) :: (r106.p, .cells ((.int .i64 t102.last.view) :: (t102.last.dig.cells ++ ((.int .i64 x92.view) :: (x92.dig.cells ++ ((.map (some r106.m1)) :: ((.map (some r106.m2)) :: (r106.vq :: []))))))).toArray 66 (0, 0)) :: (r106.m1, r106.o1) :: (r106.m2, r106.o2) :: (ob r106.oq ++ H107))⟩ := hC
          replace hB : Bxs G w w0.heap.size [(b100, 43, x92.cells)] ⟨(List.map (·.1) ((bs, .cells [(.int .i64 s.crew.faults), (.slice A9 s.crew.nodes.length cap10), (.int .i64 s.low), (.map (some l2))].toArray 70 (0, 0)) :: (l2, om3) :: H5)), ((bs, .cells [(.int .i64 s.crew.faults), (.slice A43 s.crew.nodes.length cap44), (.int .i64 s.low), (.map (some l36))].toArray 70 (0, 0)) :: (l36, om37) :: (r106.p, .cells ((.int .i64 t102.last.view) :: (t102.last.dig.cells ++ ((.int .i64 x92.view) :: (x92.dig.cells ++ ((.map (some r106.m1)) :: ((.map (some r106.m2)) :: (r106.vq :: []))))))).toArray 66 (0, 0)) :: (r106.m1, r106.o1) :: (r106.m2, r106.o2) :: (ob r106.oq ++ H107))⟩ := hB
          refine wdNext hGd rfl (kpDrop rfl (kpDrop rfl (kpDrop rfl (kpDrop rfl (kpDrop rfl kpNil))))) (Tk.nil _) ?_
          refine wdDone (by kernel_rfl) ?_
          refine wcOf ?_
          refine wcRegion ?_
          refine wlVal (opIncr rfl rfl (incr_ok (of_decide_eq_true h45) hpl.le)) rfl ?_
          refine wlVal (opMove rfl) rfl ?_
          refine wlRound ?_
          exact (IH0 (k + 1, ((bs, Obj.cells [(Value.int .i64 s.crew.faults), (Value.slice A43 s.crew.nodes.length cap44), (Value.int .i64 s.low), (Value.map (some l36))].toArray 70 (0, 0)) :: (l36, om37) :: (r106.p, Obj.cells ((Value.int .i64 t102.last.view) :: (t102.last.dig.cells ++ ((Value.int .i64 x92.view) :: (x92.dig.cells ++ ((Value.map (some r106.m1)) :: ((Value.map (some r106.m2)) :: (r106.vq :: []))))))).toArray 66 (0, 0)) :: (r106.m1, r106.o1) :: (r106.m2, r106.o2) :: (ob r106.oq ++ H107)), (upd Fp x92.seq (SlotS.mk t102.last ((Wd.mk x92.view x92.dig)) t102.pre t102.com t102.q))) _ _ ⟨hC, hB.tail, hn6, hpl, hql, hn30, hsil, ⟨_, _, _, _, _, rfl, hn40, hM41, (hR111 _ ⟨r106.p, r106.m1, r106.m2, ((Value.int .i64 t102.last.view) :: (t102.last.dig.cells ++ ((Value.int .i64 x92.view) :: (x92.dig.cells ++ ((Value.map (some r106.m1)) :: ((Value.map (some r106.m2)) :: (r106.vq :: []))))))), r106.o1, r106.o2, r106.vq, r106.oq⟩ (SlotS.mk t102.last ((Wd.mk x92.view x92.dig)) t102.pre t102.com t102.q) (fun _ _ h => h) rfl ⟨rfl, hM112, hM113, hq114, hS109.ql⟩)⟩, (by rw [← hP, drop_get hx93, List.foldl_cons]; simp only [setP, hf101]), (fun y => by rw [upd_isSome hf101 y]; exact hD y), (upd_q hE (by have q1 := hE _ _ hf101; exact q1))⟩ (by have := of_decide_eq_true h45; simp; omega)).sub (fun _ ha => (((((ha.start.cons ha (t := 0) rfl).cons ha (t := 2) rfl).cons ha (t := 32) rfl).cons ha (t := 33) rfl).cons ha (t := 34) rfl))

end Go.Proofs.YtljcgggflgbenaaDoor
