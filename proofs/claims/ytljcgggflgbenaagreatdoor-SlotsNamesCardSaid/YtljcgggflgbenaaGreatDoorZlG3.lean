/- What functions of the slots seat return, part 3. No condition. -/
import Derived.Test.YtljcgggflgbenaaGreatDoorZlG2
import Derived.Test.YtljcgggflgbenaaGreatDoorGxSched
import Derived.Test.YtljcgggflgbenaaGreatDoorZlObj
set_option linter.all false
namespace Go.Proofs.YtljcgggflgbenaaGreatDoor
open Go Go.Gx Go.RowKit
theorem idxG_ge {α : Type} {p : α → Bool} : ∀ (l : List α) (k : Nat), (idxG p l k = -1 ∧ ∀ x ∈ l, p x = false) ∨ ∃ i, k ≤ i ∧ idxG p l k = (i : Int) ∧ i - k + 1 ≤ l.length ∧ l.take (i - k) = (l.take (i - k + 1)).filter (fun x => !p x)
  | [], k => .inl ⟨rfl, by simp⟩
  | x :: r, k => by
    cases hp : p x with
    | true => exact .inr ⟨k, Nat.le_refl _, by simp [idxG, hp], by simp, by simp [hp]⟩
    | false =>
      simp only [idxG, hp, cond_false]
      rcases idxG_ge r (k + 1) with ⟨h1, h2⟩ | ⟨i, h1, h2, h3, h4⟩
      · exact .inl ⟨h1, fun y hy => (List.mem_cons.1 hy).elim (fun e => by rw [e]; exact hp) (h2 y)⟩
      · refine .inr ⟨i, by omega, h2, by simp; omega, ?_⟩
        rw [show i - k = (i - (k + 1)) + 1 by omega]
        simp only [List.take_succ_cons, List.filter_cons, hp, Bool.not_false, if_true]
        rw [h4]
theorem idxG_nat {α : Type} {p : α → Bool} {l : List α} (h : (idxG p l 0 == (-1)) = false) : ∃ i : Nat, idxG p l 0 = (i : Int) ∧ i + 1 ≤ l.length ∧ l.take i = (l.take (i + 1)).filter (fun x => !p x) ∧ True := by
  rcases idxG_ge (p := p) l 0 with ⟨h1, _⟩ | ⟨i, _, h2, h3, h4⟩
  · rw [h1] at h; cases h
  · exact ⟨i, h2, by simpa using h3, by simpa using h4, trivial⟩
theorem filter_none {α : Type} {p : α → Bool} {l : List α} (h : (idxG p l 0 == (-1)) = true) : l.filter (fun x => !p x) = l := by
  rcases idxG_ge (p := p) l 0 with ⟨_, h2⟩ | ⟨i, _, h2, _, _⟩
  · rw [List.filter_eq_self]; intro x hx; simp [h2 x hx]
  · rw [h2] at h; simp at h
section
variable {p : Stand → Bool} {s cur : List Stand} {i j : Nat} {x : Stand}
theorem df_get (hJ : cur.drop j = s.drop j) (hx : cur[j]? = some x) : s[j]? = some x := by
  have : (cur.drop j)[0]? = (s.drop j)[0]? := by rw [hJ]
  rw [List.getElem?_drop, List.getElem?_drop] at this
  rw [← hx]; exact this.symm
theorem df_skip (_ : i < j) (hJ : cur.drop j = s.drop j) (hI : cur.take i = (s.take j).filter (fun x => !p x)) (hx : cur[j]? = some x) (hp : p x = true) : cur.take i = (s.take (j + 1)).filter (fun x => !p x) := by
  rw [List.take_add_one, df_get hJ hx, List.filter_append, ← hI]; simp [hp]
theorem df_keep (hij : i < j) (hJ : cur.drop j = s.drop j) (hI : cur.take i = (s.take j).filter (fun x => !p x)) (hx : cur[j]? = some x) (hp : p x = false) : (cur.set i x).take (i + 1) = (s.take (j + 1)).filter (fun x => !p x) := by
  have hl := (List.getElem?_eq_some_iff.1 hx).1
  rw [List.take_add_one, List.take_add_one, df_get hJ hx, List.filter_append, ← hI, List.getElem?_set, if_pos rfl, if_pos (by omega), List.take_set_of_le (Nat.le_refl _)]
  simp [hp]
theorem df_drop (hJ : cur.drop j = s.drop j) : cur.drop (j + 1) = s.drop (j + 1) := by
  rw [← List.drop_drop, ← List.drop_drop, hJ]
theorem df_drop2 (hij : i < j) (hJ : cur.drop j = s.drop j) : (cur.set i x).drop (j + 1) = s.drop (j + 1) := by
  rw [List.drop_set_of_lt (by omega)]; exact df_drop hJ
theorem df_end {z : List Stand} (hl : cur.length = s.length) (hij : i < j) (hI : cur.take i = (s.take j).filter (fun x => !p x)) (hj : s.length ≤ j) (hi : i ≤ cur.length) : (cur.take i ++ z).take i = s.filter (fun x => !p x) := by
  rw [List.take_of_length_le (l := s) hj] at hI
  rw [← hI, List.take_append_of_le_length (by simp; omega), List.take_take, Nat.min_self]
end
theorem nil_of {α : Type} [Rp α] {G : Gh} {A : Option Addr} {n cap : Nat} {s : List α} (h : Sl G (.slice A n cap) s) (hA : Option.isNone A = true) : s = [] := by
  obtain ⟨A', cap', e1, _, _, e4⟩ := h
  cases s with
  | nil => rfl
  | cons x r =>
    obtain ⟨b, o, _, q, _⟩ := e4 0 x (by simp)
    injection e1 with e1
    rw [e1, q] at hA; cases hA

abbrev kM : Mark → Value := fun x => .agg x.cells.toArray
theorem ua38q : Tryz.prog.underlying 37 = some (.array 32 5) := by kernel_rfl
theorem ub5q : Tryz.prog.underlying 5 = some (.int .u8) := by kernel_rfl
theorem on5q : oneOk Tryz.prog 5 = true := by kernel_rfl
theorem sz5' : (Tryz.prog.info? 5).map (·.size) = some 1 := by kernel_rfl
theorem rw38q : rowOk Tryz.prog 37 32 = true := by kernel_rfl
theorem on3q : oneOk Tryz.prog 3 = true := by kernel_rfl
theorem un3q : Tryz.prog.underlying 3 = some (.int .i64) := by kernel_rfl
theorem cells_num (x : Mark) : ∀ v ∈ x.cells, isNum v = true := by
  intro v hv
  simp only [Mark.cells, List.mem_cons, List.mem_append, List.not_mem_nil, or_false] at hv
  rcases hv with rfl | hv
  · rfl
  · simp only [Dig.cells, List.mem_map] at hv
    obtain ⟨b, _, rfl⟩ := hv; rfl
theorem digcells_inj {a b : Dig} (h : a.cells = b.cells) : a = b := by
  have : a.l = b.l := by
    have := h
    unfold Dig.cells at this
    exact (List.map_inj_right (fun x y hxy => by
      simp only [Value.int.injEq, true_and] at hxy
      exact UInt8.toNat_inj.1 (by omega))).1 this
  cases a; cases b; simp only [] at this; subst this; rfl
theorem cells_inj (x y : Mark) (h : x.cells = y.cells) : x = y := by
  simp only [Mark.cells, List.append_nil, List.cons.injEq, Value.int.injEq, true_and] at h
  have := digcells_inj h.2
  cases x; cases y; simp only [] at h this; rw [h.1, this]
theorem fa98q : fieldsAre Tryz.prog 114 [(3, 0), (37, 1)] = true := by kernel_rfl
theorem by38q : bytes32 Tryz.prog 37 = true := by kernel_rfl
theorem eq38q (d : Nat) (x y : Dig) (w : World) : (Op.equalIn (d + 2) 37 (.agg x.cells.toArray) (.agg y.cells.toArray)).run Tryz.prog w = .ok (decide (x = y)) w := run_equalIn_dig by38q x y w
theorem rw38q' : rowOk Tryz.prog 37 32 = true := by kernel_rfl
theorem eq98q (d : Nat) (x y : Mark) (w : World) : (Op.equalIn (d + 4) 114 (.agg x.cells.toArray) (.agg y.cells.toArray)).run Tryz.prog w = .ok (decide (x = y)) w := by
  have h : decide (x = y) = ((x.seq == y.seq) && (decide (x.dig = y.dig) && true)) := by rw [Bool.eq_iff_iff]; cases x; cases y; simp
  rw [h]; exact run_equalIn_fields fa98q ⟨_, _, _, _, run_part_one on3q (v := .int .i64 x.seq) (by simp [Mark.cells]), run_part_one on3q (v := .int .i64 y.seq) (by simp [Mark.cells]), fun w => run_equalIn_int w _ 3 _ .i64 _ _ un3q, ⟨_, _, _, _, run_part_row' rw38q' (r := x.dig.cells) (by simp [Mark.cells]), run_part_row' rw38q' (r := y.dig.cells) (by simp [Mark.cells]), fun w => eq38q _ x.dig y.dig w, rfl, rfl⟩, rfl⟩ w
theorem keyL98 : KeyL Tryz.prog 114 kM := keyL_row fa98q cells_num (fun x y w => eq98q 9996 x y w) cells_inj (fun b x w => checkKey_struct fa98q b 9999 w (fun p hp => by
  simp only [List.mem_cons, List.not_mem_nil, or_false] at hp
  rcases hp with rfl | rfl
  · exact ⟨_, run_part_one on3q (v := .int .i64 x.seq) (by simp [Mark.cells]) w, checkKey_int un3q b 9998 _ w⟩
  · exact ⟨_, run_part_row rw38q w, checkKey_array ua38q ub5q on5q sz5' b 9997 _ (by simp [Mark.cells]) w⟩))
def prevQ (l : List Stand) (k : Nat) : Option Stand := if k = 0 then none else l[k - 1]?
theorem prevQ_zero {l : List Stand} {k : Nat} (h : decide (0 < ((k : Nat) : Int)) = false) : prevQ l k = none := by
  have := of_decide_eq_false h; unfold prevQ; rw [if_pos (by omega)]
theorem prevQ_of {l : List Stand} {k : Nat} {y : Stand} (h : decide (0 < ((k : Nat) : Int)) = true) (hy : l[k - 1]? = some y) : prevQ l k = some y := by
  have := of_decide_eq_true h; unfold prevQ; rw [if_neg (by omega), hy]
theorem prevQ_succ {l : List Stand} {k : Nat} {y : Stand} (hy : l[k]? = some y) : prevQ l (k + 1) = some y := by unfold prevQ; rw [if_neg (by omega)]; exact hy
def lePrev (p : Option Stand) (a : Stand) : Bool := match p with | none => false | some q => decide (a.seq ≤ q.seq)
def gePrev (p : Option Stand) (a : Stand) : Bool := match p with | none => false | some q => decide (0 ≤ ordS q a)
def pMayG (f : Int → Option SlotS) : Option Stand → List Stand → Bool
  | _, [] => true
  | p, a :: r => bif (f a.seq).isNone || !viewB a.view || lePrev p a then false else pMayG f (some a) r
def qMayG (f : Int → Option SlotS) : Option Stand → List (Int × Int) → List (Mark × Int) → List Stand → Bool
  | _, _, _, [] => true
  | p, D, E, a :: r => bif (f a.seq).isNone || !viewB a.view || gePrev p a || decide (4 < (mget (mput D a.seq (IntKind.wrap .i64 ((mget D a.seq).getD (0 : Int) + 1))) a.seq).getD (0 : Int)) || decide (1 < (mget (mput E (Mark.mk a.seq a.dig) (IntKind.wrap .i64 ((mget E (Mark.mk a.seq a.dig)).getD (0 : Int) + 1))) (Mark.mk a.seq a.dig)).getD (0 : Int)) then false
    else qMayG f (some a) (mput D a.seq (IntKind.wrap .i64 ((mget D a.seq).getD (0 : Int) + 1))) (mput E (Mark.mk a.seq a.dig) (IntKind.wrap .i64 ((mget E (Mark.mk a.seq a.dig)).getD (0 : Int) + 1))) r
theorem Ow.dropO {o : Option Bx} {T n cap l : Nat} {A : Option Addr} {xs : List Stand} {G : Gh} (h : Ow G o T (.slice A n cap) xs) (hl : l < xs.length) :
    Ow G o T (.slice (if cap = l then A else Option.map (fun a => a.add (l * 34)) A) (n - l) (cap - l)) (xs.drop l) := by
  obtain ⟨A', cap', e⟩ := h.form
  injection e with e1 e2 e3
  subst e2
  have hc := h.capLe
  obtain ⟨g, so, cs, rfl, rfl⟩ := h.addr hl
  rw [if_neg (by omega)]
  have := h.dropOwn (l := l) (Nat.le_of_lt hl)
  have e : Option.map (fun a : Addr => a.add (l * 34)) (some ⟨g, so, none⟩) = some ⟨g, so + l * 34, none⟩ := by
    unfold Addr.add; simp only [Option.map_some]; split
    · rename_i h0; rw [h0]; rfl
    · rfl
  rw [e]; exact this
theorem ob_keys (o : Option Bx) : (ob o).map (·.1) = (Option.toList o).map (·.1) := by cases o <;> rfl
theorem cover {H5 H : List (Nat × Obj)} {r : SlotB} {x y x' y' : Nat × Obj} {o1 o2 o3 : Obj} {bl : List Bx} (hp : H5.Perm (r.blocks ++ H)) (hx : x.1 = x'.1) (hy : y.1 = y'.1) :
    ∀ m ∈ List.map (·.1) (x :: y :: H5), m ∈ (bl ++ (Option.toList r.oq ++ [])).map (fun x : Bx => x.1) ∨ m ∈ (x' :: y' :: (r.p, o1) :: (r.m1, o2) :: (r.m2, o3) :: H).map (·.1) := by
  intro m hm
  have hq := (hp.map (·.1)).mem_iff (a := m)
  simp only [SlotB.blocks, List.map_cons, List.map_append, List.mem_cons, List.mem_append, ob_keys, List.map_nil, List.not_mem_nil, or_false] at hm hq ⊢
  rw [hq] at hm
  rcases hm with h | h | ((h | h | h | h) | h)
  · exact .inr (.inl (h.trans hx))
  · exact .inr (.inr (.inl (h.trans hy)))
  · exact .inr (.inr (.inr (.inl h)))
  · exact .inr (.inr (.inr (.inr (.inl h))))
  · exact .inr (.inr (.inr (.inr (.inr (.inl h)))))
  · exact .inl (.inr h)
  · exact .inr (.inr (.inr (.inr (.inr (.inr h)))))
theorem isJ_len {p : Stand → Stand → Int} : ∀ (j : Nat) (l : List Stand), (isJ p j l).length = l.length
  | 0, _ => rfl
  | j + 1, l => by
    unfold isJ
    cases decide (p (l.getD (j + 1) default) (l.getD j default) < 0) with
    | false => rfl
    | true => rw [cond_true, isJ_len]; simp
theorem isI_len {p : Stand → Stand → Int} : ∀ (f i : Nat) (l : List Stand), (isI p f i l).length = l.length
  | 0, _, _ => rfl
  | f + 1, i, l => by unfold isI; rw [isI_len, isJ_len]
theorem isortG_len {p : Stand → Stand → Int} (l : List Stand) : (isortG p l).length = l.length := isI_len _ _ _
/-- What holds of slots at any time. -/
structure SlOk (s : SlS) : Prop where
  low : 0 ≤ s.low ∧ s.low ≤ 9007199254740983
  q4 : ∀ k t, s.f k = some t → t.q.length ≤ 4
  dom : ∀ k, (s.f k).isSome = (decide (s.low < k) && decide (k ≤ s.low + 8))
def propQ (q : List Stand) (k : Int) (d : Dig) (v : Int) : List Stand :=
  isortG ordS ((bif decide ((4 : Int) ≤ (((q.filter (fun a => !decide (a.dig = d))).length : Nat) : Int)) then List.drop 1 (q.filter (fun a => !decide (a.dig = d))) else q.filter (fun a => !decide (a.dig = d))) ++ [Stand.mk k d v])
def propS (c : Crew) (t : SlotS) (k : Int) (d : Dig) (v : Int) : SlotS := lookS c (SlotS.mk (Wd.mk v d) t.prep t.pre t.com (propQ t.q k d v))
def propI (s : SlS) (v k : Int) (d : Dig) : SlS × Int :=
  bif !viewB v then (s, 190) else match s.f k with
  | none => (s, 150)
  | some t => bif goesI t.last v d != 0 then (s, goesI t.last v d) else (SlS.mk s.crew s.low (upd s.f k (propS s.crew t k d v)), 0)
def fillN (f : Int → Option SlotS) (lo : Int) : Nat → Int → Option SlotS
  | 0 => f
  | i + 1 => match fillN f lo i (lo + (i : Int)) with
    | none => upd (fillN f lo i) (lo + (i : Int)) newS
    | some _ => fillN f lo i
theorem upd_self {f : Int → Option SlotS} {k : Int} {t : SlotS} (h : f k = some t) : upd f k t = f := by
  funext x; unfold upd; split
  · rename_i e; subst e; exact h.symm
  · rfl
theorem fill_new {f F : Int → Option SlotS} {lo k : Int} {i : Nat} (hF : F = fillN f lo i) (hk : k = lo + i) (hf : F k = none) : upd F k newS = fillN f lo (i + 1) := by
  subst hF hk; simp only [fillN, hf]
theorem fill_old {f F : Int → Option SlotS} {lo k : Int} {i : Nat} {t : SlotS} (hF : F = fillN f lo i) (hk : k = lo + i) (hf : F k = some t) : upd F k t = fillN f lo (i + 1) := by
  rw [upd_self hf]; subst hF hk; simp only [fillN, hf]
theorem fill_end {l k : Int} {i : Nat} {F f : Int → Option SlotS} (h : 0 ≤ l ∧ l ≤ 9007199254740983) (hi : i ≤ 8) (hk : k = l + 1 + i) (hA : F = fillN f (l + 1) i) (hc : decide (k ≤ IntKind.wrap .i64 (l + 8)) = false) : fillN f (l + 1) 8 = F :=
  (lowk_end h hi hk hA hc).symm
theorem new_l7 {c : Crew} (h : (check c != 0) = false) : c.nodes.length ≤ 7 := by
  have h1 : check c = 0 := by simpa using h
  unfold check at h1
  cases h2 : decide (c.faults < 0) || (decide (2 < c.faults) || ((c.nodes.length : Int) != IntKind.wrap .i64 (IntKind.wrap .i64 (3 * c.faults) + 1))) with
  | true => rw [h2] at h1; cases h1
  | false =>
    simp only [Bool.or_eq_false_iff, decide_eq_false_iff_not, bne_eq_false_iff_eq] at h2
    obtain ⟨a, b, e⟩ := h2
    rw [IntWalk.i64_in (3 * c.faults) (by omega), IntWalk.i64_in _ (by omega)] at e
    omega
theorem new_l6 {c : Crew} (h : (check c != 0) = false) : c.nodes.length ≤ 1000000 := Nat.le_trans (new_l7 h) (by decide)
theorem new_le {c : Crew} (h : (check c != 0) = false) : c.nodes.length ≤ maxL := Nat.le_trans (new_l7 h) (by decide)
def newOk (c : Crew) (self low : Int) : Bool := !(check c != 0) && has c self && lowB low
theorem newOk_1 {c : Crew} {self low : Int} (h : newOk c self low = true) : (check c != 0) = false := by unfold newOk at h; cases hc : check c != 0 <;> simp_all
theorem newOk_2 {c : Crew} {self low : Int} (h : newOk c self low = true) : has c self = true := by unfold newOk at h; cases hc : has c self <;> simp_all
theorem newOk_3 {c : Crew} {self low : Int} (h : newOk c self low = true) : lowB low = true := by unfold newOk at h; cases hc : lowB low <;> simp_all
theorem lowB_of {low : Int} (h : lowB low = true) : 0 ≤ low ∧ low ≤ 9007199254740983 := by
  unfold lowB at h; simpa using h
theorem fillN_eq {f : Int → Option SlotS} {lo : Int} : ∀ (i : Nat) (x : Int), fillN f lo i x = if lo ≤ x ∧ x < lo + i then some ((f x).getD newS) else f x
  | 0, x => by rw [fillN, if_neg (by omega)]
  | i + 1, x => by
    have ih := fillN_eq (f := f) (lo := lo) i
    have ihx := ih x
    have ihk := ih (lo + i)
    rw [if_neg (by omega)] at ihk
    rw [fillN]
    by_cases hx : x = lo + i
    · subst hx
      rw [if_pos (by omega)]
      cases hf : f (lo + i) with
      | none =>
        rw [hf] at ihk; rw [ihk]; simp [upd]
      | some t => rw [hf] at ihk; rw [ihk]; simp [ihk]
    · have : (if lo ≤ x ∧ x < lo + ((i + 1 : Nat) : Int) then some ((f x).getD newS) else f x) = if lo ≤ x ∧ x < lo + (i : Int) then some ((f x).getD newS) else f x := by
        by_cases h1 : lo ≤ x ∧ x < lo + (i : Int)
        · rw [if_pos h1, if_pos (by omega)]
        · rw [if_neg h1, if_neg (by omega)]
      rw [this, ← ihx]
      cases fillN f lo i (lo + i) with
      | none => simp only [upd]; rw [if_neg (Ne.symm hx)]
      | some t => rfl
def newSl (c : Crew) (low : Int) : SlS := SlS.mk c low (fillN (fun _ => none) (low + 1) 8)
theorem fillOk {c : Crew} {low : Int} {f : Int → Option SlotS} (h : 0 ≤ low ∧ low ≤ 9007199254740983) (hq : ∀ k t, f k = some t → t.q.length ≤ 4) (hd : ∀ k t, f k = some t → low < k ∧ k ≤ low + 8) : SlOk (SlS.mk c low (fillN f (low + 1) 8)) := by
  refine ⟨h, fun k t ht => ?_, fun k => ?_⟩
  · simp only [fillN_eq] at ht
    split at ht
    · cases hf : f k with
      | none => rw [hf] at ht; simp at ht; subst ht; simp [newS]
      | some u => rw [hf] at ht; simp at ht; subst ht; exact hq k _ hf
    · exact hq k t ht
  · simp only [fillN_eq]
    by_cases hk : low + 1 ≤ k ∧ k < low + 1 + ((8 : Nat) : Int)
    · rw [if_pos hk]; simp; omega
    · rw [if_neg hk]
      cases hf : f k with
      | none => symm; simp; omega
      | some t => have := hd k t hf; omega
theorem newOk_ok {c : Crew} {self low : Int} (h : newOk c self low = true) : SlOk (newSl c low) := fillOk (lowB_of (newOk_3 h)) (fun _ _ h => by cases h) (fun _ _ h => by cases h)
theorem upd_isSome {f : Int → Option SlotS} {k : Int} {t u : SlotS} (h : f k = some t) (x : Int) : (upd f k u x).isSome = (f x).isSome := by
  unfold upd; split
  · rename_i e; subst e; rw [h]; rfl
  · rfl
theorem SlOk.updQ {s : SlS} {k : Int} {t u : SlotS} (h : SlOk s) (hk : s.f k = some t) (hu : u.q.length ≤ 4) : SlOk (SlS.mk s.crew s.low (upd s.f k u)) := by
  refine ⟨h.low, fun x y hy => ?_, fun x => ?_⟩
  · simp only [upd] at hy; split at hy
    · simp at hy; subst hy; exact hu
    · exact h.q4 x y hy
  · simp only [upd_isSome hk]; exact h.dom x
theorem SlOk.hear {b : Bool} {s : SlS} {node view k : Int} {d : Dig} {leads : Bool} (h : SlOk s) : SlOk (hearI b s node view k d leads).1 := by
  unfold hearI
  cases has s.crew node <;> cases viewB view <;> cases (!leads && (leaderI s.crew view == node)) <;> simp only [Bool.not_true, Bool.not_false, cond_true, cond_false] <;> try exact h
  cases hk : s.f k with
  | none => exact h
  | some x =>
    simp only []
    cases b <;> simp only [cond_true, cond_false]
    · cases saysI x.com node view d != 0
      · exact h.updQ hk (h.q4 k x hk)
      · exact h
    · cases saysI x.pre node view d != 0
      · exact h.updQ hk (h.q4 k x hk)
      · exact h
theorem lookS_q (c : Crew) (t : SlotS) : (lookS c t).q = t.q := by unfold lookS; cases readyI c t <;> rfl
theorem SlOk.prep {s : SlS} {node view k : Int} {d : Dig} (h : SlOk s) : SlOk (prepI s node view k d).1 := by
  have h1 := SlOk.hear (b := true) (node := node) (view := view) (k := k) (d := d) (leads := false) h
  unfold prepI
  cases (hearI true s node view k d false).2 == 0 with
  | false => exact h1
  | true =>
    rw [cond_true]
    cases hk : (hearI true s node view k d false).1.f k with
    | none => exact h1
    | some t => exact h1.updQ hk (by rw [lookS_q]; exact h1.q4 k t hk)
theorem propQ_len {q : List Stand} {k : Int} {d : Dig} {v : Int} (h : q.length ≤ 4) : (propQ q k d v).length ≤ 4 := by
  unfold propQ
  have h1 := List.length_filter_le (fun a => !decide (a.dig = d)) q
  rw [isortG_len, List.length_append, List.length_singleton]
  cases hc : decide ((4 : Int) ≤ (((q.filter (fun a => !decide (a.dig = d))).length : Nat) : Int)) with
  | true => rw [cond_true, List.length_drop]; omega
  | false => have := of_decide_eq_false hc; rw [cond_false]; omega
theorem SlOk.prop {s : SlS} {v k : Int} {d : Dig} (h : SlOk s) : SlOk (propI s v k d).1 := by
  unfold propI
  cases viewB v with
  | false => exact h
  | true =>
    rw [Bool.not_true, cond_false]
    cases hk : s.f k with
    | none => exact h
    | some t =>
      simp only []
      cases goesI t.last v d != 0 with
      | true => exact h
      | false => exact h.updQ hk (by unfold propS; rw [lookS_q]; exact propQ_len (h.q4 k t hk))
def raiseF (f : Int → Option SlotS) (low : Int) : Int → Option SlotS := fun x => if x ≤ low then none else f x
def raiseI (s : SlS) (low : Int) : SlS × Int :=
  bif decide (low < s.low) || !lowB low then (s, 9) else (SlS.mk s.crew low (fillN (raiseF s.f low) (low + 1) 8), 0)
theorem nd_mid {a b : List Int} {k : Int} (h : (a ++ k :: b).Nodup) : k ∉ a ++ b ∧ (a ++ b).Nodup := by
  rw [List.nodup_append, List.nodup_cons] at h
  obtain ⟨h1, ⟨h2, h3⟩, h4⟩ := h
  refine ⟨fun hk => ?_, ?_⟩
  · rcases List.mem_append.1 hk with hk | hk
    · exact h4 k hk k (by simp) rfl
    · exact h2 hk
  · rw [List.nodup_append]; exact ⟨h1, h3, fun x hx y hy => h4 x hx y (by simp [hy])⟩
theorem hnd_eq {l m : List Int} (e : l = m) (h : l.Nodup) : m.Nodup := e ▸ h
theorem ra_init {G : Gh} {D : List (Int × Pt)} {H : List (Nat × Obj)} {f : Int → Option SlotS} {low : Int} (h : SlH G D H f) : ∀ x, f x = if x ≤ low ∧ x ∉ List.map (fun x => x.1) D then none else f x := by
  intro x; split
  · rename_i hx
    cases hf : f x with
    | none => rfl
    | some t =>
      obtain ⟨r, H', h1, _⟩ := h.at_some hf
      exact absurd (mget_isSome.1 ⟨_, h1⟩) hx.2
  · rfl
theorem ra_del {f F : Int → Option SlotS} {low k : Int} {l a b : List Int} (hn : l.Nodup) (hF : ∀ x, F x = if x ≤ low ∧ x ∉ l then none else f x) (e : l = a ++ k :: b) (hk : decide (k ≤ low) = true) : ∀ x, del F k x = if x ≤ low ∧ x ∉ a ++ b then none else f x := by
  have hk := of_decide_eq_true hk
  have hm := (nd_mid (hnd_eq e hn)).1
  intro x; unfold del
  by_cases hx : k = x
  · subst hx; rw [if_pos rfl, if_pos ⟨hk, hm⟩]
  · rw [if_neg hx, hF x]
    have : x ∉ l ↔ x ∉ a ++ b := by rw [e]; simp [Ne.symm hx]
    simp only [this]
theorem ra_keep {f F : Int → Option SlotS} {low k : Int} {l a b : List Int} (hF : ∀ x, F x = if x ≤ low ∧ x ∉ l then none else f x) (e : l = a ++ k :: b) (hk : decide (k ≤ low) = false) : ∀ x, F x = if x ≤ low ∧ x ∉ a ++ b then none else f x := by
  have hk := of_decide_eq_false hk
  intro x; rw [hF x]
  by_cases hx : x ≤ low
  · have hne : x ≠ k := by omega
    have : x ∉ l ↔ x ∉ a ++ b := by rw [e]; simp [hne]
    simp only [this]
  · rw [if_neg (fun h => hx h.1), if_neg (fun h => hx h.1)]
theorem ra_end {f F : Int → Option SlotS} {low : Int} {l : List Int} (hF : ∀ x, F x = if x ≤ low ∧ x ∉ l then none else f x) (e : l = []) : F = raiseF f low := by
  funext x; rw [hF x, e]; unfold raiseF; simp
theorem SlOk.raise {s : SlS} {low : Int} (h : SlOk s) : SlOk (raiseI s low).1 := by
  unfold raiseI
  cases h1 : decide (low < s.low) || !lowB low with
  | true => exact h
  | false =>
    rw [Bool.or_eq_false_iff, Bool.not_eq_false'] at h1
    have h2 := of_decide_eq_false h1.1
    rw [cond_false]
    refine fillOk (lowB_of h1.2) (fun k t ht => ?_) (fun k t ht => ?_)
    · unfold raiseF at ht; split at ht
      · cases ht
      · exact h.q4 k t ht
    · unfold raiseF at ht; split at ht
      · cases ht
      · rename_i hk
        have := h.dom k
        rw [ht] at this
        simp at this; omega
def setP (f : Int → Option SlotS) (a : Stand) : Int → Option SlotS := match f a.seq with | none => f | some t => upd f a.seq (SlotS.mk t.last (Wd.mk a.view a.dig) t.pre t.com t.q)
def setQ (f : Int → Option SlotS) (a : Stand) : Int → Option SlotS := match f a.seq with | none => f | some t => upd f a.seq (SlotS.mk (Wd.mk a.view a.dig) t.prep t.pre t.com (t.q ++ [a]))
abbrev f0 (low : Int) : Int → Option SlotS := fillN (fun _ => none) (low + 1) 8
def restI (s : SlS) (pl ql : List Stand) : SlS × Int :=
  bif !pMayG s.f none pl || !qMayG s.f none [] [] ql then (s, 2) else (SlS.mk s.crew s.low (ql.foldl setQ (pl.foldl setP (f0 s.low))), 0)
theorem pMayG_mem {f : Int → Option SlotS} : ∀ {l : List Stand} {p : Option Stand}, pMayG f p l = true → ∀ a ∈ l, (f a.seq).isSome = true
  | [], _, _, a, ha => by cases ha
  | x :: r, p, h, a, ha => by
    unfold pMayG at h
    cases hb : (f x.seq).isNone || !viewB x.view || lePrev p x with
    | true => rw [hb] at h; cases h
    | false =>
      rw [hb] at h
      rcases List.mem_cons.1 ha with rfl | ha
      · simp only [Bool.or_eq_false_iff] at hb
        cases hf : f a.seq with
        | none => rw [hf] at hb; simp at hb
        | some t => rfl
      · exact pMayG_mem h a ha
theorem qMayG_mem {f : Int → Option SlotS} : ∀ {l : List Stand} {p : Option Stand} {D : List (Int × Int)} {E : List (Mark × Int)}, qMayG f p D E l = true → ∀ a ∈ l, (f a.seq).isSome = true
  | [], _, _, _, _, a, ha => by cases ha
  | x :: r, p, D, E, h, a, ha => by
    unfold qMayG at h
    cases hf : f x.seq with
    | none => rw [hf] at h; simp at h
    | some t =>
      rcases List.mem_cons.1 ha with rfl | ha
      · rw [hf]; rfl
      · revert h
        generalize (_ || _ || _ || _ || _ : Bool) = b
        cases b with
        | true => intro h; cases h
        | false => intro h; exact qMayG_mem h a ha
theorem f0_isSome {low x : Int} : (f0 low x).isSome = (decide (low < x) && decide (x ≤ low + 8)) := by
  unfold f0; rw [fillN_eq]
  by_cases h : low + 1 ≤ x ∧ x < low + 1 + ((8 : Nat) : Int)
  · rw [if_pos h]; symm; simp; omega
  · rw [if_neg h]; symm; simp; omega
theorem f0_q {low x : Int} {t : SlotS} (h : f0 low x = some t) : t.q.length ≤ 0 := by
  unfold f0 at h; rw [fillN_eq] at h; split at h
  · simp at h; subst h; simp [newS]
  · cases h
theorem rs_dead {s : SlS} {F : Int → Option SlotS} {l : List Stand} {k : Nat} {x : Stand} (hok : SlOk s) (hm : ∀ a ∈ l, (s.f a.seq).isSome = true) (hx : l[k]? = some x) (hD : ∀ y, (F y).isSome = (f0 s.low y).isSome) (hf : F x.seq = none) : False := by
  have h1 := hm x (List.mem_of_getElem? hx)
  rw [hok.dom, ← f0_isSome, ← hD, hf] at h1
  cases h1
theorem upd_q {f : Int → Option SlotS} {k : Int} {t : SlotS} {n : Nat} (h : ∀ x u, f x = some u → u.q.length ≤ n) (ht : t.q.length ≤ n) : ∀ x u, upd f k t x = some u → u.q.length ≤ n := by
  intro x u hu; unfold upd at hu; split at hu
  · simp at hu; subst hu; exact ht
  · exact h x u hu
theorem eg44 : Tryz.prog.eqGuardType Tryz.prog.depth 44 = false := by kernel_rfl
theorem fa44 : fieldsAre Tryz.prog 44 [(3, 0), (37, 1), (3, 33)] = true := by kernel_rfl
theorem co41 : callOk Tryz.prog 41 = true := by kernel_rfl
theorem co79 : callOk Tryz.prog 79 = true := by kernel_rfl
theorem us38 : Tryz.prog.underlying 38 = some (.slice 44) := by kernel_rfl
theorem so114 : structOk Tryz.prog 114 [(0, 1), (1, 32)] = true := by kernel_rfl
theorem zero114 : (Tryz.prog.info? 114).bind (fun i => i.zero.map Value.cells) = some (((.int .i64 0) :: (Dig.zero.cells ++ [])) : List Value).toArray := by kernel_rfl
theorem sz114 : (Tryz.prog.info? 114).map (·.size) = some 33 := by kernel_rfl
theorem zv3 : (Tryz.prog.info? 3).bind (fun i => i.zero) = some (.int .i64 0) := by kernel_rfl
theorem mk111 : mapKV Tryz.prog 111 3 3 = true := by kernel_rfl
theorem row114 : rowOk Tryz.prog 114 33 = true := by kernel_rfl
theorem mk112 : mapKV Tryz.prog 112 114 3 = true := by kernel_rfl
theorem co54 : callOk Tryz.prog 54 = true := by kernel_rfl
theorem co52 : callOk Tryz.prog 52 = true := by kernel_rfl
theorem co51 : callOk Tryz.prog 51 = true := by kernel_rfl
theorem sz38 : (Tryz.prog.info? 38).map (·.size) = some 1 := by kernel_rfl
theorem co53 : callOk Tryz.prog 53 = true := by kernel_rfl
theorem co65 : callOk Tryz.prog 65 = true := by kernel_rfl
theorem co25 : callOk Tryz.prog 25 = true := by kernel_rfl
theorem co26 : callOk Tryz.prog 26 = true := by kernel_rfl
theorem so56 : structOk Tryz.prog 56 [(0, 2), (2, 1), (3, 1)] = true := by kernel_rfl
theorem zero56 : (Tryz.prog.info? 56).bind (fun i => i.zero.map Value.cells) = some ([(.int .i64 0), (.slice none 0 0), (.int .i64 0), (.map none)] : List Value).toArray := by kernel_rfl
theorem co27 : callOk Tryz.prog 27 = true := by kernel_rfl
theorem sz3 : (Tryz.prog.info? 3).map (·.size) = some 1 := by kernel_rfl
theorem co61 : callOk Tryz.prog 61 = true := by kernel_rfl
theorem co62 : callOk Tryz.prog 62 = true := by kernel_rfl
theorem eq44 (d : Nat) (x y : Stand) (w : World) : (Op.equalIn (d + 4) 44 (.agg x.cells.toArray) (.agg y.cells.toArray)).run Tryz.prog w = .ok (decide (x = y)) w := by
  have h : decide (x = y) = ((x.seq == y.seq) && (decide (x.dig = y.dig) && ((x.view == y.view) && true))) := by rw [Bool.eq_iff_iff]; cases x; cases y; simp
  rw [h]; exact run_equalIn_fields fa44 ⟨_, _, _, _, run_part_one one3 (v := .int .i64 x.seq) (by simp [Stand.cells]), run_part_one one3 (v := .int .i64 y.seq) (by simp [Stand.cells]), fun w => run_equalIn_int w _ 3 _ .i64 _ _ ui3, ⟨_, _, _, _, run_part_row' row37 (r := x.dig.cells) (by simp [Stand.cells]), run_part_row' row37 (r := y.dig.cells) (by simp [Stand.cells]), fun w => eq37 _ x.dig y.dig w, ⟨_, _, _, _, run_part_one one3 (v := .int .i64 x.view) (by simp [Stand.cells]), run_part_one one3 (v := .int .i64 y.view) (by simp [Stand.cells]), fun w => run_equalIn_int w _ 3 _ .i64 _ _ ui3, rfl, rfl⟩, rfl⟩, rfl⟩ w
theorem cloneI_ret (G0 : Gh) (w0 : World) (hw : Holds G0 w0) (vs : Value) (s : List Int) (hs : Sl G0 vs s) (hlen : s.length ≤ 1000000) :
  RetO Tryz.prog 26 #[vs] G0 w0 (fun G o v => ∃ A cap, v = (.slice A s.length cap) ∧ Ow G o 3 (.slice A s.length cap) s) := by
 have hC := Cx.refl hw
 have hB : Bxs G0 w0 w0.heap.size [] := Bxs.nil _ _ _
 obtain ⟨A1, cap2, rfl⟩ := hs.form
 refine callsOf Tryz.func26 rfl _ Tryz.ntmps26 rfl _ (argsCons argsNil (t := 0) rfl) ?_; intro Q0 hQ
 refine wcSeq <| wcRegion <| A_ rfl ?_
 refine wlThen (wcSeq (wcSeq (wcRegion ?_)))
 refine M_ rfl <| V_ (opNilSlice rfl rfl isl22) <| wlThen ?_
 cases h3 : (Option.isNone A1)
 ·
  refine wcCondF rfl <| wcSkip <| wcOf <| wcSeq <| wcRegion ?_
  refine wlBuildOwn (α := Int) (bl := []) (r := []) (ps := []) (xs := []) (rows := []) elo22 rfl rfl hC hB rfl rfl rfl trivial rfl ?_; intro g6 cs7 w hk hC hB hO8
  refine M_ rfl ?_
  refine wlAppend (α := Int) (bl := []) (o := (some (g6, 3, cs7))) (r := []) elo22 hC hB rfl rfl hO8 hs (by simp; omega) rfl rfl ?_; intro A9 cap10 o11 w hC hB hO12
  refine A_ rfl <| wlThen <| wcRet ?_
  exact r1_ hQ rfl rfl (endO (bl := []) (o := o11) (r := []) hC hB ⟨_, _, rfl, hO12⟩)
 ·
  refine wcCondT rfl <| wcSeq <| wcRegion <| A_ rfl <| wlThen <| wcRet ?_
  exact r1_ hQ rfl rfl (endO (bl := []) (o := none) (r := []) hC hB (by have q := nil_of hs h3; subst q; exact ⟨_, _, rfl, (Ow.nil_ _ 3)⟩))

theorem rsame_ret (G0 : Gh) (w0 : World) (hw : Holds G0 w0) (vx : Value) (x : List Stand) (hx : Sl G0 vx x) (vy : Value) (y : List Stand) (hy : Sl G0 vy y) :
  RetS Tryz.prog 41 #[vx, vy] G0 w0 (.bool (decide (x = y))) := by
 have hC := Cx.refl hw
 have hB : Bxs G0 w0 w0.heap.size [] := Bxs.nil _ _ _
 obtain ⟨A1, cap2, rfl⟩ := hx.form
 obtain ⟨A3, cap4, rfl⟩ := hy.form
 refine callsOf Tryz.func41 rfl _ Tryz.ntmps41 rfl _ (argsCons (argsCons argsNil (t := 0) rfl) (t := 1) rfl) ?_; intro Q0 hQ
 refine wcSeq <| wcRegion <| A_ rfl ?_
 refine wlThen (wcSeq (wcSeq (wcRegion ?_)))
 refine M_ rfl <| V_ (opLen rfl isl38) <| M_ rfl <| V_ (opLen rfl isl38) <| V_ (opNeq rfl rfl) <| wlThen ?_
 cases h5 : (((x.length : Nat) : Int)) != (((y.length : Nat) : Int))
 ·
  refine wcCondF rfl <| wcSkip <| wcOf ?_
  refine wcSeq (wcSeq (wcRegion ?_))
  refine A_ rfl <| wlThen <| wcBlock ?_
  refine WC.sub (wrInd (ι := Nat) (fun k => x.length - k) (fun k G w => Cx w0 G0 G w ∧ Bxs G w w0.heap.size [] ∧ Sl G (.slice A1 x.length cap2) x ∧ Sl G (.slice A3 y.length cap4) y ∧ k ≤ x.length ∧ x.take k = y.take k) (fun k => (((Env.nil.put 0 (.slice A1 x.length cap2)).put 1 (.slice A3 y.length cap4)).put 5 (.int .i64 (((k : Nat) : Int))))) ?_ (0) _ _ ⟨hC, hB, hx, hy, (by simp), rfl⟩) (fun _ ha => (((ha.start.c ha 0 rfl).c ha 1 rfl).c ha 5 rfl))
  rintro k G w N0 IH0 ⟨hC, hB, hx, hy, hk, hI⟩
  refine wcSeq (wcSeq (wcRegion ?_))
  refine M_ rfl <| M_ rfl <| V_ (opLen rfl isl38) <| V_ (opLssN rfl rfl) <| wlThen ?_
  cases h6 : decide (k < x.length)
  ·
   refine wcCondF rfl <| wcExit <| wcOf <| wcSeq <| wcRegion <| A_ rfl <| wlThen <| wcRet ?_
   exact r1_ hQ rfl rfl (endS hC hw (by have e1 := of_decide_eq_false h6; have e2 := h5; simp at e2; have e3 := hI; rw [List.take_of_length_le (by omega), List.take_of_length_le (by omega)] at e3; simp [e3]))
  ·
   refine wcCondT rfl <| wcSkip <| wcOf <| wcSeq <| wcBlock <| wcSeq ?_
   refine wcDrawS 9 [0, 0, 3, 7, 0, 0, 48, 112, 255] fmix (by kernel_rfl) (by kernel_rfl) rfl hC hB ?_; intro w hC hB
   refine D_ 0 rfl rfl (fun _ => opMove rfl) <| D_ 1 rfl rfl (fun _ => opMove rfl) ?_
   obtain ⟨x7, hx8⟩ : ∃ y_, x[k]? = some y_ := ⟨_, List.getElem?_eq_getElem (of_decide_eq_true h6)⟩
   obtain ⟨b9, o10, row11, hA14, hr12, hi13⟩ := hx.elem hx8; subst hA14
   obtain rfl := hi13
   refine D_ 2 rfl rfl (fun _ => (opIndexAddr rfl rfl slo38 (of_decide_eq_true h6))) <| E_ 3 rfl rfl (opLoadRow (cs := x7.cells) rfl (RowG.range hC.holds hr12) row44 (by simp [cl_])) <| D_ 4 rfl rfl (fun _ => opMove rfl) <| D_ 5 rfl rfl (fun _ => opMove rfl) ?_
   obtain ⟨x15, hx16⟩ : ∃ y_, y[k]? = some y_ := ⟨_, List.getElem?_eq_getElem (by have e1 := of_decide_eq_true h6; have e2 := h5; simp at e2; omega)⟩
   obtain ⟨b17, o18, row19, hA22, hr20, hi21⟩ := hy.elem hx16; subst hA22
   obtain rfl := hi21
   refine D_ 6 rfl rfl (fun _ => (opIndexAddr rfl rfl slo38 (by have e1 := of_decide_eq_true h6; have e2 := h5; simp at e2; omega))) <| E_ 7 rfl rfl (opLoadRow (cs := x15.cells) rfl (RowG.range hC.holds hr20) row44 (by simp [cl_])) <| D_ 8 rfl rfl (fun _ => (opNeRow (eq44 _ x7 x15) eg44 rfl rfl)) <| wdDone (by kernel_rfl) <| wcOf ?_
   cases h23 : decide (x7 = x15)
   ·
    refine wcCondT rfl <| wcSeq <| wcRegion <| A_ rfl <| wlThen <| wcRet ?_
    exact r1_ hQ rfl rfl (endS hC hw (by have e1 := h23; simp at e1; symm; simp; rintro rfl; exact e1 (Option.some.inj (hx8.symm.trans hx16))))
   ·
    refine wcCondF rfl <| wcSkip <| wcOf <| wcRegion <| M_ rfl <| V_ (opIncr rfl rfl (incr_ok (of_decide_eq_true h6) hx.le)) <| A_ rfl <| wlRound ?_
    exact (IH0 (k + 1) _ _ ⟨hC, hB, hx, hy, (of_decide_eq_true h6), (by have e1 := h23; simp at e1; rw [List.take_add_one, List.take_add_one, hI, hx8, hx16, e1])⟩ (by have := of_decide_eq_true h6; simp; omega)).sub (fun _ ha => (((ha.start.c ha 0 rfl).c ha 1 rfl).c ha 5 rfl))
 ·
  refine wcCondT rfl <| wcSeq <| wcRegion <| A_ rfl <| wlThen <| wcRet ?_
  exact r1_ hQ rfl rfl (endS hC hw (by simp at h5; symm; simp; rintro rfl; exact h5 rfl))

theorem stands_ret (G0 : Gh) (w0 : World) (hw : Holds G0 w0) (vx : Value) (x : List Stand) (hx : Sl G0 vx x) (vy : Value) (y : List Stand) (hy : Sl G0 vy y) :
  RetS Tryz.prog 33 #[vx, vy] G0 w0 (.bool (decide (x = y))) := by
 have hC := Cx.refl hw
 have hB : Bxs G0 w0 w0.heap.size [] := Bxs.nil _ _ _
 obtain ⟨A1, cap2, rfl⟩ := hx.form
 obtain ⟨A3, cap4, rfl⟩ := hy.form
 refine callsOf Tryz.func33 rfl _ Tryz.ntmps33 rfl _ (argsCons (argsCons argsNil (t := 0) rfl) (t := 1) rfl) ?_; intro Q0 hQ
 refine wcSeq <| wcRegion <| A_ rfl ?_
 refine wlThen (wcSeq (wcRegion ?_))
 refine M_ rfl <| M_ rfl ?_
 refine wlCallS hC hB rfl co41 rfl rfl (rsame_ret _ _ hC.holds _ x hx _ y hy) ?_; intro w hk hC hB
 refine A_ rfl <| wlThen <| wcRet ?_
 exact r1_ hQ rfl rfl (endS hC hw rfl)

theorem idxF_ret (G0 : Gh) (w0 : World) (hw : Holds G0 w0) (vs : Value) (s : List Stand) (hs : Sl G0 vs s) (ff : FuncId) (cf : List Value) (pf : Stand → Bool) (kf : callOk Tryz.prog ff = true) (hf : ∀ (G : Gh) (w : World) (f_x0 : Stand), GLe G0 G → Holds G w → RetS Tryz.prog ff ([Value.agg f_x0.cells.toArray] ++ cf).toArray G w (.bool (pf f_x0))) :
  RetS Tryz.prog 79 #[vs, .func (.func ff) #[] cf.toArray] G0 w0 (.int .i64 (idxG pf s 0)) := by
 have hC := Cx.refl hw
 have hB : Bxs G0 w0 w0.heap.size [] := Bxs.nil _ _ _
 obtain ⟨A1, cap2, rfl⟩ := hs.form
 refine callsOf Tryz.func79 rfl _ Tryz.ntmps79 rfl _ (argsCons (argsCons argsNil (t := 0) rfl) (t := 1) rfl) ?_; intro Q0 hQ
 refine wcSeq <| wcRegion <| A_ rfl ?_
 refine wlThen (wcSeq (wcSeq (wcRegion ?_)))
 refine M_ rfl <| V_ (opLen rfl isl38) <| M_ rfl <| wlThen <| wcBlock ?_
 refine WC.sub (wrInd (ι := Nat) (fun k => s.length - k) (fun k G w => Cx w0 G0 G w ∧ Bxs G w w0.heap.size [] ∧ Sl G (.slice A1 s.length cap2) s ∧ idxG pf (s.drop k) k = idxG pf s 0) (fun k => ((((Env.nil.put 0 (.slice A1 s.length cap2)).put 1 (.func (.func ff) #[] cf.toArray)).put 7 (.int .i64 (((s.length : Nat) : Int)))).put 8 (.int .i64 (((k : Nat) : Int))))) ?_ (0) _ _ ⟨hC, hB, hs, rfl⟩) (fun _ ha => ((((ha.start.c ha 0 rfl).c ha 1 rfl).c ha 7 rfl).c ha 8 rfl))
 rintro k G w N0 IH0 ⟨hC, hB, hs, hI⟩
 refine wcSeq <| wcRegion <| V_ (opLssN rfl rfl) <| wlThen <| wcSeq ?_
 cases h3 : decide (k < s.length)
 ·
  refine wcCondF rfl <| wcExit <| wcOf <| wcSeq <| wcRegion <| A_ rfl <| wlThen <| wcRet ?_
  exact r1_ hQ rfl rfl (endS hC hw (by have e := hI; rw [List.drop_eq_nil_of_le (Nat.le_of_not_lt (of_decide_eq_false h3))] at e; simp [idxG, h3] at e; first | (simp [h3, e]; done) | (simp [h3, ← e]; done) | (simp [h3]; exact e)))
 ·
  refine wcCondT rfl <| wcSkip <| wcOf <| wcSeq ?_
  refine wcBlock (wcSeq (wcRegion ?_))
  refine M_ rfl <| A_ rfl ?_
  refine wlThen (wcSeq (wcRegion ?_))
  refine M_ rfl <| M_ rfl <| M_ rfl ?_
  obtain ⟨x4, hx5⟩ : ∃ y_, s[k]? = some y_ := ⟨_, List.getElem?_eq_getElem (of_decide_eq_true h3)⟩
  obtain ⟨b6, o7, row8, hA11, hr9, hi10⟩ := hs.elem hx5; subst hA11
  obtain rfl := hi10
  refine V_ (opIndexAddr rfl rfl slo38 (of_decide_eq_true h3)) <| V_ (opLoadRow (cs := x4.cells) rfl (RowG.range hC.holds hr9) row44 (by simp [cl_])) ?_
  refine wlCallS hC hB rfl kf rfl rfl (hf _ _ x4 hC.gle hC.holds ) ?_; intro w hk hC hB
  refine wlThen ?_
  cases h12 : pf x4
  ·
   refine wcCondF rfl <| wcSkip <| wcOf <| wcRegion <| V_ (opIncr rfl rfl (incr_ok (of_decide_eq_true h3) hs.le)) <| M_ rfl <| wlRound ?_
   exact (IH0 (k + 1) _ _ ⟨hC, hB, hs, (by rw [← hI, drop_get hx5]; simp [idxG, h3, h12])⟩ (by have := of_decide_eq_true h3; simp; omega)).sub (fun _ ha => ((((ha.start.c ha 0 rfl).c ha 1 rfl).c ha 7 rfl).c ha 8 rfl))
  ·
   refine wcCondT rfl <| wcSeq <| wcRegion <| M_ rfl <| A_ rfl <| wlThen <| wcRet ?_
   exact r1_ hQ rfl rfl (endS hC hw (by have e := hI; rw [drop_get hx5] at e; simp [idxG, h3, h12] at e; first | (simp [h3, h12, e]; done) | (simp [h3, h12, ← e]; done) | (simp [h3, h12]; exact e)))

theorem prop1_ret (G0 : Gh) (w0 : World) (hw : Holds G0 w0) (a : Stand) (bd : Nat) (d : Dig) (hd : RowG G0 bd 0 d.cells) :
  RetS Tryz.prog 52 #[.agg a.cells.toArray, .pointer (some ⟨bd, 0, none⟩)] G0 w0 (.bool (decide (a.dig = d))) := by
 have hC := Cx.refl hw
 have hB : Bxs G0 w0 w0.heap.size [] := Bxs.nil _ _ _
 refine callsOf Tryz.func52 rfl _ Tryz.ntmps52 rfl _ (argsCons (argsCons argsNil (t := 0) rfl) (t := 1) rfl) ?_; intro Q0 hQ
 refine wcSeq <| wcRegion ?_
 refine wlBox (cs := a.cells) hC hB rfl rfl rfl ?_; intro b1 w hk hC hB
 refine A_ rfl ?_
 refine wlThen (wcSeq (wcRegion ?_))
 refine V_ (opFieldAddr rfl fo44_1) <| V_ (opLoadRow (cs := a.dig.cells) rfl (hB.range (i := 0) (m := 32) rfl (by simp [cl_])) row37 (by simp [cl_])) <| V_ (opLoadRow (cs := d.cells) rfl (RowG.range hC.holds (hd.part (i := 0) (m := 32) (by simp [cl_]))) row37 (by simp [cl_])) <| V_ (opEqRow (eq37 _ a.dig d) eg37 rfl rfl) <| A_ rfl <| wlThen <| wcRet ?_
 exact r1_ hQ rfl rfl (endS hC hw rfl)

theorem delf_ret (G0 : Gh) (w0 : World) (hw : Holds G0 w0) (vs : Value) (s : List Stand) (os : Option Bx) (hs : Ow G0 os 44 vs s) (hBs : Bxs G0 w0 w0.heap.size (Option.toList os) ((Option.toList os).map (·.1))) (ff : FuncId) (cf : List Value) (pf : Stand → Bool) (kf : callOk Tryz.prog ff = true) (hf : ∀ (G : Gh) (w : World) (f_x0 : Stand), GLe G0 G → Holds G w → RetS Tryz.prog ff ([Value.agg f_x0.cells.toArray] ++ cf).toArray G w (.bool (pf f_x0))) (hlen : s.length ≤ 1000000) :
  RetP Tryz.prog 51 #[vs, .func (.func ff) #[] cf.toArray] G0 w0 ((Option.toList os).map (·.1)) (fun G o v => ∃ A cap, v = (.slice A ((s.filter (fun dz_ => !pf dz_))).length cap) ∧ Ow G o 44 (.slice A ((s.filter (fun dz_ => !pf dz_))).length cap) ((s.filter (fun dz_ => !pf dz_)))) := by
 have hC := Cx.reflM ((Option.toList os).map (·.1)) hw
 have hB : Bxs G0 w0 w0.heap.size ([] ++ (Option.toList os ++ [])) ((Option.toList os).map (·.1)) := by simpa using hBs
 obtain ⟨A1, cap2, rfl⟩ := hs.form
 refine callsOf Tryz.func51 rfl _ Tryz.ntmps51 rfl _ (argsCons (argsCons argsNil (t := 0) rfl) (t := 1) rfl) ?_; intro Q0 hQ
 refine wcSeq <| wcRegion <| A_ rfl ?_
 refine wlThen (wcSeq (wcRegion ?_))
 refine M_ rfl <| M_ rfl ?_
 refine wlCallS hC hB rfl co79 rfl rfl (RetS.borrow (bl := []) (r := []) hs hC hB (by unfold maxL; omega) (fun G_ hglent hhlent hlent => idxF_ret _ _ hhlent _ s hlent _ _ pf kf (fun G w f_x0 hg hw  => hf G w f_x0 (fun b o h => hg b o (hglent b o (hC.gle b o h))) hw ))) ?_; intro w hk hC hB
 refine A_ rfl ?_
 refine wlThen (wcSeq (wcSeq (wcRegion ?_)))
 refine M_ rfl <| V_ (opEql rfl rfl) <| wlThen ?_
 cases h3 : ((idxG pf s 0)) == ((-1))
 ·
  obtain ⟨i0, hi0, hi1, hi2, hi3⟩ := idxG_nat (p := pf) (l := s) h3
  rw [hi0]
  refine wcCondF rfl <| wcSkip <| wcOf ?_
  refine wcSeq (wcSeq (wcRegion ?_))
  refine M_ rfl <| V_ (opIncr rfl rfl (by omega)) <| A_ rfl <| wlThen <| wcBlock ?_
  refine WC.sub (wrInd (ι := Nat × Nat × (Option Addr) × Nat × (Option Bx) × (List Stand)) (fun i => match i with | (j, i, curA, curC, curO, cur) => cur.length - j) (fun i G w => match i with | (j, i, curA, curC, curO, cur) => Cx w0 G0 G w ⟨((Option.toList os).map (·.1)), []⟩ ∧ Bxs G w w0.heap.size ([] ++ (Option.toList curO ++ [])) ⟨((Option.toList os).map (·.1)), []⟩ ∧ Ow G curO 44 (.slice curA cur.length curC) cur ∧ cur.length = s.length ∧ i < j ∧ j ≤ s.length ∧ cur.drop j = s.drop j ∧ cur.take i = (s.take j).filter (fun x => !pf x)) (fun i => match i with | (j, i, curA, curC, curO, cur) => ((((Env.nil.put 0 (.slice curA cur.length curC)).put 1 (.func (.func ff) #[] cf.toArray)).put 5 (.int .i64 (((i : Nat) : Int)))).put 6 (.int .i64 (((j : Nat) : Int))))) ?_ (i0 + 1, i0, A1, cap2, os, s) _ _ ⟨hC, hB, hs, rfl, (Nat.lt_succ_self _), hi1, rfl, hi2⟩) (fun _ ha => ((((ha.start.c ha 0 rfl).c ha 1 rfl).c ha 5 rfl).c ha 6 rfl))
  rintro ⟨j, i, curA, curC, curO, cur⟩ G w N0 IH0 ⟨hC, hB, hOcur, hlen2, hij, hjl, hJ, hI⟩
  refine wcSeq (wcSeq (wcRegion ?_))
  refine M_ rfl <| M_ rfl <| V_ (opLen rfl isl38) <| V_ (opLssN rfl rfl) <| wlThen ?_
  cases h4 : decide (j < cur.length)
  ·
   refine wcCondF rfl <| wcExit <| wcOf <| wcSeq <| wcRegion <| M_ rfl <| M_ rfl <| V_ (opSliceFrom slo38 rfl rfl (by omega)) ?_
   refine wlClearTail (α := Stand) (bl := []) (r := []) (l := i) (z := (Stand.mk 0 Dig.zero 0)) (zc := ((.int .i64 0) :: (Dig.zero.cells ++ ((.int .i64 0) :: [])))) us38 rfl (fun _ => rfl) zero44 hC hB hOcur (by omega) rfl rfl ?_; intro o5 w hC hB hO6
   refine wlThen (wcSeq (wcRegion ?_))
   refine M_ rfl <| M_ rfl <| V_ (opSliceTo slo38 rfl rfl (by have q := hO6.capLe; omega)) <| A_ rfl <| wlThen <| wcRet ?_
   exact r1_ hQ rfl rfl (endP (bl := []) (o := o5) (r := []) hC hB (by have e := df_end (z := List.replicate (cur.length - i) (Stand.mk 0 Dig.zero 0)) hlen2 hij hI (by have q := of_decide_eq_false h4; omega) (by have q := of_decide_eq_false h4; omega); rw [← e]; exact ⟨curA, curC, (by have hl : ((cur.take i ++ List.replicate (cur.length - i) (Stand.mk 0 Dig.zero 0)).take i).length = i := (by simp; omega); rw [hl]), (by have hl : ((cur.take i ++ List.replicate (cur.length - i) (Stand.mk 0 Dig.zero 0)).take i).length = i := (by simp; omega); rw [hl]; exact (Ow.take hO6 (by simp; omega)))⟩))
  ·
   refine wcCondT rfl <| wcSkip <| wcOf <| wcSeq ?_
   refine wcBlock (wcSeq (wcRegion ?_))
   refine M_ rfl <| M_ rfl ?_
   obtain ⟨x7, hx8⟩ : ∃ y_, cur[j]? = some y_ := ⟨_, List.getElem?_eq_getElem (of_decide_eq_true h4)⟩
   obtain ⟨g9, so11, cs10, rfl, rfl⟩ := hOcur.addr (of_decide_eq_true h4)
   refine V_ (opIndexAddr rfl rfl slo38 (of_decide_eq_true h4)) ?_
   obtain ⟨row12, hr13, hi14, hl15⟩ := Ow.elemAt (bl := []) (r := []) hOcur hB hx8; obtain rfl := hi14
   refine V_ (opLoadRow (cs := x7.cells) rfl hr13 row44 (by simp [cl_])) ?_
   refine wlAlloc hC hB zero44 rfl ?_; intro b16 w hk hC hB
   refine wlStore 0 (vs := x7.cells) (cs := ((.int .i64 0) :: (Dig.zero.cells ++ ((.int .i64 0) :: [])))) (cs' := x7.cells) hC hB rfl rfl rfl sz44 rfl (by simp [cl_]) (by simp [cl_, Value.oneCell']) (by simp [cl_]) (by simp [cl_]) rfl ?_; intro w hC hB
   refine wlThen (wcSeq (wcRegion ?_))
   refine M_ rfl <| V_ (opLoadRow (cs := x7.cells) rfl (hB.range (i := 0) (m := 34) rfl (by simp [cl_])) row44 (by simp [cl_])) ?_
   refine wlCallS hC hB rfl kf rfl rfl (hf _ _ x7 hC.gle hC.holds ) ?_; intro w hk hC hB
   refine V_ (opNot rfl) <| wlThen ?_
   cases h17 : pf x7
   ·
    refine wcCondT rfl <| wcSeq <| wcRegion <| M_ rfl <| M_ rfl <| V_ (opLoadRow (cs := x7.cells) rfl (hB.range (i := 0) (m := 34) rfl (by simp [cl_])) row44 (by simp [cl_])) ?_
    obtain ⟨x18, hx19⟩ : ∃ y_, cur[i]? = some y_ := ⟨_, List.getElem?_eq_getElem (by have q := of_decide_eq_true h4; omega)⟩
    refine V_ (opIndexAddr rfl rfl slo38 (by have q := of_decide_eq_true h4; omega)) ?_
    refine wlStoreOw (α := Stand) (bl := [(b16, 44, x7.cells)]) (r := []) (vs := x7.cells) (off := 0) (y := x7) hC hB hOcur hx19 rfl (by show _ = so11 + _ * 34 + 0; omega) rfl sz44 rfl (by simp [cl_]) (by simp [cl_, Value.oneCell']) (Nat.le_refl _) (fun row h => by obtain rfl := h; exact whole_row (by simp) (by simp)) rfl ?_; intro cs20 w hC hB hO21
    refine wlThen <| wcRegion <| M_ rfl <| V_ (opIncr rfl rfl (by have q := of_decide_eq_true h4; omega)) <| A_ rfl <| wlNil <| wcOf <| wcRegion <| M_ rfl <| V_ (opIncr rfl rfl (by have q := of_decide_eq_true h4; omega)) <| A_ rfl <| wlRound ?_
    exact (IH0 (j + 1, i + 1, (some ⟨g9, so11, none⟩), curC, (some (g9, 44, cs20)), (List.set cur i x7)) _ _ ⟨hC, hB.tail, (by simpa using hO21), (by simpa using hlen2), (by omega), (by have q := of_decide_eq_true h4; omega), (df_drop2 hij hJ), (df_keep hij hJ hI hx8 h17)⟩ (by have q := of_decide_eq_true h4; simp; omega)).sub (fun _ ha => ((((ha.start.cons ha (t := 0) (congrArg (fun n_ => some (Value.slice (some ⟨g9, so11, none⟩) n_ curC)) (by simp))).c ha 1 rfl).c ha 5 rfl).c ha 6 rfl))
   ·
    refine wcCondF rfl <| wcSkip <| wcOf <| wcRegion <| M_ rfl <| V_ (opIncr rfl rfl (by have q := of_decide_eq_true h4; omega)) <| A_ rfl <| wlRound ?_
    exact (IH0 (j + 1, i, (some ⟨g9, so11, none⟩), curC, (some (g9, 44, cs10)), cur) _ _ ⟨hC, hB.tail, hOcur, (by simpa using hlen2), (by omega), (by have q := of_decide_eq_true h4; omega), (df_drop hJ), (df_skip hij hJ hI hx8 h17)⟩ (by have q := of_decide_eq_true h4; simp; omega)).sub (fun _ ha => ((((ha.start.c ha 0 rfl).c ha 1 rfl).c ha 5 rfl).c ha 6 rfl))
 ·
  refine wcCondT rfl <| wcSeq <| wcRegion <| M_ rfl <| A_ rfl <| wlThen <| wcRet ?_
  exact r1_ hQ rfl rfl (endP (bl := []) (o := os) (r := []) hC hB (by rw [filter_none h3]; exact ⟨_, _, rfl, hs⟩))

theorem pMay_ret (G0 : Gh) (w0 : World) (hw : Holds G0 w0) (bs : Nat) (Os : List (Nat × Obj)) (s : SlS) (hOs : HasL G0 Os) (hs : SlO G0 bs Os s) (vl : Value) (l : List Stand) (hl : Sl G0 vl l) :
  RetS Tryz.prog 61 #[.pointer (some ⟨bs, 0, none⟩), vl] G0 w0 (.bool ((pMayG s.f none l))) := by
 have hC := Cx.refl hw
 have hB : Bxs G0 w0 w0.heap.size [] := Bxs.nil _ _ _
 obtain ⟨v1, l2, om3, D4, H5, e6, hn7, hM8, hH9⟩ := id hs
 obtain ⟨A14, cap15, rfl⟩ := hn7.form
 have hb10 : HasO G0 bs (.cells [(.int .i64 s.crew.faults), (.slice A14 s.crew.nodes.length cap15), (.int .i64 s.low), (.map (some l2))].toArray 56 (0, 0)) := hOs (bs, (.cells [(.int .i64 s.crew.faults), (.slice A14 s.crew.nodes.length cap15), (.int .i64 s.low), (.map (some l2))].toArray 56 (0, 0))) (by rw [e6]; simp)
 have hl11 : HasO G0 l2 om3 := hOs (l2, om3) (by rw [e6]; simp)
 have hL12 : HasL G0 H5 := fun x hx => hOs x (by rw [e6]; simp [hx])
 have hF13 := hb10.row
 obtain ⟨A16, cap17, rfl⟩ := hl.form
 refine callsOf Tryz.func61 rfl _ Tryz.ntmps61 rfl _ (argsCons (argsCons argsNil (t := 0) rfl) (t := 1) rfl) ?_; intro Q0 hQ
 refine wcSeq <| wcRegion <| A_ rfl ?_
 refine wlThen (wcSeq (wcSeq (wcRegion ?_)))
 refine M_ rfl <| V_ (opLen rfl isl38) <| M_ rfl <| wlThen <| wcBlock ?_
 refine WC.sub (wrInd (ι := Nat) (fun k => l.length - k) (fun k G w => Cx w0 G0 G w ∧ Bxs G w w0.heap.size [] ∧ Sl G (.slice A14 s.crew.nodes.length cap15) s.crew.nodes ∧ HasL G Os ∧ SlO G bs Os s ∧ MpO kI G om3 D4 ∧ SlH G D4 H5 s.f ∧ HasO G bs (.cells [(.int .i64 s.crew.faults), (.slice A14 s.crew.nodes.length cap15), (.int .i64 s.low), (.map (some l2))].toArray 56 (0, 0)) ∧ HasO G l2 om3 ∧ HasL G H5 ∧ Sl G (.slice A16 l.length cap17) l ∧ RowG G bs 0 [(.int .i64 s.crew.faults), (.slice A14 s.crew.nodes.length cap15), (.int .i64 s.low), (.map (some l2))] ∧ pMayG s.f (prevQ l k) (l.drop k) = pMayG s.f none l) (fun k => (((((Env.nil.put 0 (.pointer (some ⟨bs, 0, none⟩))).put 1 (.slice A16 l.length cap17)).put 7 (.slice A16 l.length cap17)).put 8 (.int .i64 (((l.length : Nat) : Int)))).put 9 (.int .i64 (((k : Nat) : Int))))) ?_ (0) _ _ ⟨hC, hB, hn7, hOs, hs, hM8, hH9, hb10, hl11, hL12, hl, hF13, rfl⟩) (fun _ ha => (((((ha.start.c ha 0 rfl).c ha 1 rfl).c ha 7 rfl).c ha 8 rfl).c ha 9 rfl))
 rintro k G w N0 IH0 ⟨hC, hB, hn7, hOs, hs, hM8, hH9, hb10, hl11, hL12, hl, hF13, hI⟩
 refine wcSeq <| wcRegion <| V_ (opLssN rfl rfl) <| wlThen <| wcSeq ?_
 cases h18 : decide (k < l.length)
 ·
  refine wcCondF rfl <| wcExit <| wcOf <| wcSeq <| wcRegion <| A_ rfl <| wlThen <| wcRet ?_
  exact r1_ hQ rfl rfl (endS hC hw (by rw [← hI, List.drop_eq_nil_of_le (Nat.le_of_not_lt (of_decide_eq_false h18))]; simp only [pMayG, h18, lePrev, gePrev, Option.isSome_some, Option.isSome_none, Option.isNone_some, Option.isNone_none, ta_]))
 ·
  refine wcCondT rfl <| wcSkip <| wcOf <| wcSeq ?_
  refine wcBlock (wcSeq (wcRegion ?_))
  refine M_ rfl ?_
  obtain ⟨x19, hx20⟩ : ∃ y_, l[k]? = some y_ := ⟨_, List.getElem?_eq_getElem (of_decide_eq_true h18)⟩
  obtain ⟨b21, o22, row23, hA26, hr24, hi25⟩ := hl.elem hx20; subst hA26
  obtain rfl := hi25
  refine V_ (opIndexAddr rfl rfl slo38 (of_decide_eq_true h18)) <| V_ (opLoadRow (cs := x19.cells) rfl (RowG.range hC.holds hr24) row44 (by simp [cl_])) ?_
  refine wlAlloc hC hB zero44 rfl ?_; intro b27 w hk hC hB
  refine A_ rfl ?_
  refine wlStore 0 (vs := x19.cells) (cs := ((.int .i64 0) :: (Dig.zero.cells ++ ((.int .i64 0) :: [])))) (cs' := x19.cells) hC hB rfl rfl rfl sz44 rfl (by simp [cl_]) (by simp [cl_, Value.oneCell']) (by simp [cl_]) (by simp [cl_]) rfl ?_; intro w hC hB
  refine wlThen <| wcSeq ?_
  refine wcDrawS 29 [0, 1, 3, 7, 0, 16, 63, 127, 255, 511, 1023, 2047, 4095, 8191, 16383, 32767, 65535, 131071, 262143, 524287, 262143, 262143, 2359295, 7602175, 15990783, 32767999, 67108863, 134217727, 268435455] fmix (by kernel_rfl) (by kernel_rfl) rfl hC hB ?_; intro w hC hB
  refine D_ 0 rfl rfl (fun _ => opMove rfl) <| D_ 1 rfl rfl (fun _ => opNilCheck rfl) <| D_ 2 rfl rfl (fun _ => (opFieldAddr rfl fo56_2)) <| E_ 3 rfl rfl (opLoadOne (v := (.map (some l2))) rfl (RowG.cell hC.holds hF13 (j := 3) rfl) one54) <| D_ 4 rfl rfl (fun _ => (opFieldAddr rfl fo44_0)) <| E_ 5 rfl rfl (opLoadOne (v := (.int .i64 x19.seq)) rfl (hB.cell (i := 0) rfl (by simp [cl_])) one3) ?_
  obtain ⟨v30, hv31, hr32⟩ := hM8.lookup (keyL_int ui3) mk54 zv75 (isPt' _ (Pt.mk none)) x19.seq
  rcases hf28 : s.f x19.seq with _ | t29
  ·
   rw [hH9.at_none hf28] at hv31
   replace hv31 : v30 = .pointer none := hv31
   subst hv31
   refine E_ 6 rfl rfl (opLookupH rfl rfl (hr32 _ _ (hl11.at_ hC.holds))) <| D_ 7 rfl rfl (fun _ => (OpVal.cast (v' := .bool true) (opPtrNil ip75 rfl rfl) rfl)) <| D_ 8 rfl rfl (fun _ => opMove rfl) <| O_ 9 rfl rfl rfl rfl rfl <| O_ 10 rfl rfl rfl rfl rfl <| O_ 11 rfl rfl rfl rfl rfl <| O_ 12 rfl rfl rfl rfl rfl <| D_ 13 rfl rfl (fun _ => opPickT rfl rfl) <| D_ 14 rfl rfl (fun _ => opMove rfl) <| O_ 15 rfl rfl rfl rfl rfl <| O_ 16 rfl rfl rfl rfl rfl <| O_ 17 rfl rfl rfl rfl rfl <| OU_ 18 rfl rfl rfl rfl <| OU_ 19 rfl rfl rfl rfl <| OU_ 20 rfl rfl rfl rfl <| OU_ 21 rfl rfl rfl rfl <| OU_ 22 rfl rfl rfl rfl <| OU_ 23 rfl rfl rfl rfl <| OU_ 24 rfl rfl rfl rfl <| OU_ 25 rfl rfl rfl rfl ?_
   refine OU_ 26 rfl rfl rfl rfl <| O_ 27 rfl rfl rfl rfl rfl <| D_ 28 rfl rfl (fun _ => opPickT rfl rfl) <| wdDone (by kernel_rfl) <| wcOf <| wcCondT rfl <| wcSeq <| wcRegion <| A_ rfl <| wlThen <| wcRet ?_
   exact r1_ hQ rfl rfl (endS hC hw (by rw [← hI, drop_get hx20]; simp only [pMayG, h18, hf28, lePrev, gePrev, Option.isSome_some, Option.isSome_none, Option.isNone_some, Option.isNone_none, ta_]))
  ·
   obtain ⟨r33, hD34, hr35, hx36⟩ := hH9.res_some hL12 hf28
   rw [hD34] at hv31
   replace hv31 : v30 = .pointer (some ⟨r33.p, 0, none⟩) := hv31
   subst hv31
   have hF37 := hx36.row hr35
   have hM38 := hx36.pre
   have hM39 := hx36.com
   have hl40 := hr35.m1
   have hl41 := hr35.m2
   have hq42 := hx36.qSl hr35
   obtain ⟨A43, cap44, e45⟩ := hq42.form
   rw [e45] at hq42 hF37
   refine E_ 6 rfl rfl (opLookupH rfl rfl (hr32 _ _ (hl11.at_ hC.holds))) <| D_ 7 rfl rfl (fun _ => (OpVal.cast (v' := .bool false) (opPtrNil ip75 rfl rfl) rfl)) <| D_ 8 rfl rfl (fun _ => opMove rfl) <| DG_ 9 rfl rfl rfl rfl (fun _ => (opFieldAddr rfl fo44_2)) <| EG_ 10 rfl rfl rfl rfl (opLoadOne (v := (.int .i64 x19.view)) rfl (hB.cell (i := 0) rfl (by simp [cl_])) one3) ?_
   refine wdAll [11] (by kernel_rfl) rfl ⟨wd1 rfl ?_, trivial⟩
   intro hGd
   refine wlOn rfl rfl ?_
   refine wlCallS hC hB rfl co49 rfl rfl (viewMay_ret _ _ hC.holds x19.view) ?_; intro w hk hC hB
   refine wdNext hGd rfl (kpDrop rfl (kpDrop rfl (kpDrop rfl (kpDrop rfl kpNil)))) (Tk.nil _) ?_
   refine DG_ 12 rfl rfl rfl rfl (fun _ => opNot rfl) <| D_ 13 rfl rfl (fun _ => opPickF rfl rfl) <| D_ 14 rfl rfl (fun _ => opMove rfl) ?_
   cases h46 : (viewB x19.view)
   ·
    refine O_ 15 rfl rfl rfl rfl rfl <| O_ 16 rfl rfl rfl rfl rfl <| O_ 17 rfl rfl rfl rfl rfl <| OU_ 18 rfl rfl rfl rfl <| OU_ 19 rfl rfl rfl rfl <| OU_ 20 rfl rfl rfl rfl <| OU_ 21 rfl rfl rfl rfl <| OU_ 22 rfl rfl rfl rfl <| OU_ 23 rfl rfl rfl rfl <| OU_ 24 rfl rfl rfl rfl <| OU_ 25 rfl rfl rfl rfl <| OU_ 26 rfl rfl rfl rfl <| O_ 27 rfl rfl rfl rfl rfl <| D_ 28 rfl rfl (fun _ => opPickT rfl rfl) <| wdDone (by kernel_rfl) <| wcOf <| wcCondT rfl <| wcSeq <| wcRegion <| A_ rfl <| wlThen ?_
    refine wcRet ?_
    exact r1_ hQ rfl rfl (endS hC hw (by rw [← hI, drop_get hx20]; simp only [pMayG, h18, hf28, h46, lePrev, gePrev, Option.isSome_some, Option.isSome_none, Option.isNone_some, Option.isNone_none, ta_]))
   ·
    refine DG_ 15 rfl rfl rfl rfl (fun _ => opMove rfl) <| DG_ 16 rfl rfl rfl rfl (fun _ => opGtr rfl rfl) <| DG_ 17 rfl rfl rfl rfl (fun _ => opMove rfl) ?_
    cases h47 : decide (0 < ((k : Nat) : Int))
    ·
     refine O_ 18 rfl rfl rfl rfl rfl <| O_ 19 rfl rfl rfl rfl rfl <| O_ 20 rfl rfl rfl rfl rfl <| O_ 21 rfl rfl rfl rfl rfl <| O_ 22 rfl rfl rfl rfl rfl <| O_ 23 rfl rfl rfl rfl rfl <| O_ 24 rfl rfl rfl rfl rfl <| O_ 25 rfl rfl rfl rfl rfl <| O_ 26 rfl rfl rfl rfl rfl <| DG_ 27 rfl rfl rfl rfl (fun _ => opPickF rfl rfl) <| D_ 28 rfl rfl (fun _ => opPickF rfl rfl) <| wdDone (by kernel_rfl) <| wcOf <| wcCondF rfl <| wcSkip <| wcOf <| wcRegion <| V_ (opIncr rfl rfl (incr_ok (of_decide_eq_true h18) hl.le)) <| M_ rfl <| wlRound ?_
     exact (IH0 (k + 1) _ _ ⟨hC, hB.tail, hn7, hOs, hs, hM8, hH9, hb10, hl11, hL12, hl, hF13, (by rw [← hI, drop_get hx20]; simp only [pMayG, h18, hf28, h46, h47, prevQ_zero h47, prevQ_succ hx20, lePrev, gePrev, Option.isSome_some, Option.isSome_none, Option.isNone_some, Option.isNone_none, ta_])⟩ (by have := of_decide_eq_true h18; simp; omega)).sub (fun _ ha => (((((ha.start.c ha 0 rfl).c ha 1 rfl).c ha 7 rfl).c ha 8 rfl).c ha 9 rfl))
    ·
     refine DG_ 18 rfl rfl rfl rfl (fun _ => (opFieldAddr rfl fo44_0)) <| EG_ 19 rfl rfl rfl rfl (opLoadOne (v := (.int .i64 x19.seq)) rfl (hB.cell (i := 0) rfl (by simp [cl_])) one3) <| DG_ 20 rfl rfl rfl rfl (fun _ => opMove rfl) <| DG_ 21 rfl rfl rfl rfl (fun _ => opMove rfl) <| DG_ 22 rfl rfl rfl rfl (fun _ => (opDecr rfl rfl (Int.ofNat_lt.1 (of_decide_eq_true h47)) (incr_ok (of_decide_eq_true h18) hl.le))) ?_
     obtain ⟨x48, hx49⟩ : ∃ y_, l[(k - 1)]? = some y_ := ⟨_, List.getElem?_eq_getElem (by have q := of_decide_eq_true h18; omega)⟩
     obtain ⟨row52, hr53, hi54⟩ := Sl.elem' hl hx49
     obtain rfl := hi54
     refine DG_ 23 rfl rfl rfl rfl (fun _ => (opIndexAddr rfl rfl slo38 (by have q := of_decide_eq_true h18; omega))) <| DG_ 24 rfl rfl rfl rfl (fun _ => (opFieldAddr rfl fo44_0)) <| EG_ 25 rfl rfl rfl rfl (opLoadOne (v := (.int .i64 x48.seq)) rfl (RowG.cell0 hC.holds hr53 (by simp [cl_])) one3) <| DG_ 26 rfl rfl rfl rfl (fun _ => opLeq rfl rfl) <| DG_ 27 rfl rfl rfl rfl (fun _ => opPickT rfl rfl) <| D_ 28 rfl rfl (fun _ => opPickF rfl rfl) <| wdDone (by kernel_rfl) <| wcOf ?_
     cases h56 : decide (x19.seq ≤ x48.seq)
     ·
      refine wcCondF rfl <| wcSkip <| wcOf <| wcRegion <| V_ (opIncr rfl rfl (incr_ok (of_decide_eq_true h18) hl.le)) <| M_ rfl <| wlRound ?_
      exact (IH0 (k + 1) _ _ ⟨hC, hB.tail, hn7, hOs, hs, hM8, hH9, hb10, hl11, hL12, hl, hF13, (by rw [← hI, drop_get hx20]; simp only [pMayG, h18, hf28, h46, h47, h56, prevQ_of h47 hx49, prevQ_succ hx20, lePrev, gePrev, Option.isSome_some, Option.isSome_none, Option.isNone_some, Option.isNone_none, ta_])⟩ (by have := of_decide_eq_true h18; have := of_decide_eq_true h47; simp; omega)).sub (fun _ ha => (((((ha.start.c ha 0 rfl).c ha 1 rfl).c ha 7 rfl).c ha 8 rfl).c ha 9 rfl))
     ·
      refine wcCondT rfl <| wcSeq <| wcRegion <| A_ rfl <| wlThen <| wcRet ?_
      exact r1_ hQ rfl rfl (endS hC hw (by rw [← hI, drop_get hx20]; simp only [pMayG, h18, hf28, h46, h47, h56, prevQ_of h47 hx49, lePrev, gePrev, Option.isSome_some, Option.isSome_none, Option.isNone_some, Option.isNone_none, ta_]))

theorem qMay_ret (G0 : Gh) (w0 : World) (hw : Holds G0 w0) (bs : Nat) (Os : List (Nat × Obj)) (s : SlS) (hOs : HasL G0 Os) (hs : SlO G0 bs Os s) (vl : Value) (l : List Stand) (hl : Sl G0 vl l) :
  RetS Tryz.prog 62 #[.pointer (some ⟨bs, 0, none⟩), vl] G0 w0 (.bool ((qMayG s.f none [] [] l))) := by
 have hC := Cx.refl hw
 have hB : Bxs G0 w0 w0.heap.size [] := Bxs.nil _ _ _
 obtain ⟨v1, l2, om3, D4, H5, e6, hn7, hM8, hH9⟩ := id hs
 obtain ⟨A14, cap15, rfl⟩ := hn7.form
 have hb10 : HasO G0 bs (.cells [(.int .i64 s.crew.faults), (.slice A14 s.crew.nodes.length cap15), (.int .i64 s.low), (.map (some l2))].toArray 56 (0, 0)) := hOs (bs, (.cells [(.int .i64 s.crew.faults), (.slice A14 s.crew.nodes.length cap15), (.int .i64 s.low), (.map (some l2))].toArray 56 (0, 0))) (by rw [e6]; simp)
 have hl11 : HasO G0 l2 om3 := hOs (l2, om3) (by rw [e6]; simp)
 have hL12 : HasL G0 H5 := fun x hx => hOs x (by rw [e6]; simp [hx])
 have hF13 := hb10.row
 obtain ⟨A16, cap17, rfl⟩ := hl.form
 refine callsOf Tryz.func62 rfl _ Tryz.ntmps62 rfl _ (argsCons (argsCons argsNil (t := 0) rfl) (t := 1) rfl) ?_; intro Q0 hQ
 refine wcSeq <| wcRegion <| A_ rfl ?_
 refine wlThen (wcSeq (wcRegion ?_))
 refine wlMakeMapH hC hB rfl ?_; intro b18 w hC hB
 have hM19 : MpO kI G0 (.map #[] 0) ([] : List (Int × Int)) := MpO.nil_ _ _
 refine wlMakeMapH hC hB rfl ?_; intro b20 w hC hB
 have hM21 : MpO kM G0 (.map #[] 0) ([] : List (Mark × Int)) := MpO.nil_ _ _
 refine A_ rfl <| A_ rfl ?_
 refine wlThen (wcSeq (wcSeq (wcRegion ?_)))
 refine M_ rfl <| V_ (opLen rfl isl38) <| M_ rfl <| wlThen <| wcBlock ?_
 refine WC.sub (wrInd (ι := Nat × Obj × (List (Int × Int)) × Obj × (List (Mark × Int))) (fun i => match i with | (k, oa, Da, ob_, Db) => l.length - k) (fun i G w => match i with | (k, oa, Da, ob_, Db) => Cx w0 G0 G w ⟨[], [(b20, ob_), (b18, oa)]⟩ ∧ Bxs G w w0.heap.size [] ⟨[], [(b20, ob_), (b18, oa)]⟩ ∧ Sl G (.slice A14 s.crew.nodes.length cap15) s.crew.nodes ∧ HasL G Os ∧ SlO G bs Os s ∧ MpO kI G om3 D4 ∧ SlH G D4 H5 s.f ∧ HasO G bs (.cells [(.int .i64 s.crew.faults), (.slice A14 s.crew.nodes.length cap15), (.int .i64 s.low), (.map (some l2))].toArray 56 (0, 0)) ∧ HasO G l2 om3 ∧ HasL G H5 ∧ Sl G (.slice A16 l.length cap17) l ∧ RowG G bs 0 [(.int .i64 s.crew.faults), (.slice A14 s.crew.nodes.length cap15), (.int .i64 s.low), (.map (some l2))] ∧ MpO kI G oa Da ∧ MpO kM G ob_ Db ∧ qMayG s.f (prevQ l k) Da Db (l.drop k) = qMayG s.f none [] [] l) (fun i => match i with | (k, oa, Da, ob_, Db) => (((((((Env.nil.put 0 (.pointer (some ⟨bs, 0, none⟩))).put 1 (.slice A16 l.length cap17)).put 5 (.map (some b18))).put 6 (.map (some b20))).put 12 (.slice A16 l.length cap17)).put 13 (.int .i64 (((l.length : Nat) : Int)))).put 14 (.int .i64 (((k : Nat) : Int))))) ?_ (0, (.map #[] 0), [], (.map #[] 0), []) _ _ ⟨hC, hB, hn7, hOs, hs, hM8, hH9, hb10, hl11, hL12, hl, hF13, hM19, hM21, rfl⟩) (fun _ ha => (((((((ha.start.c ha 0 rfl).c ha 1 rfl).c ha 5 rfl).c ha 6 rfl).c ha 12 rfl).c ha 13 rfl).c ha 14 rfl))
 rintro ⟨k, oa, Da, ob_, Db⟩ G w N0 IH0 ⟨hC, hB, hn7, hOs, hs, hM8, hH9, hb10, hl11, hL12, hl, hF13, hMoa, hMob_, hI⟩
 refine wcSeq <| wcRegion <| V_ (opLssN rfl rfl) <| wlThen <| wcSeq ?_
 cases h22 : decide (k < l.length)
 ·
  refine wcCondF rfl <| wcExit <| wcOf <| wcSeq <| wcRegion <| A_ rfl <| wlThen <| wcRet ?_
  exact r1_ hQ rfl rfl (endS hC hw (by rw [← hI, List.drop_eq_nil_of_le (Nat.le_of_not_lt (of_decide_eq_false h22))]; simp only [qMayG, h22, lePrev, gePrev, Option.isSome_some, Option.isSome_none, Option.isNone_some, Option.isNone_none, ta_]))
 ·
  refine wcCondT rfl <| wcSkip <| wcOf <| wcSeq ?_
  refine wcBlock (wcSeq (wcRegion ?_))
  refine M_ rfl ?_
  obtain ⟨x23, hx24⟩ : ∃ y_, l[k]? = some y_ := ⟨_, List.getElem?_eq_getElem (of_decide_eq_true h22)⟩
  obtain ⟨b25, o26, row27, hA30, hr28, hi29⟩ := hl.elem hx24; subst hA30
  obtain rfl := hi29
  refine V_ (opIndexAddr rfl rfl slo38 (of_decide_eq_true h22)) <| V_ (opLoadRow (cs := x23.cells) rfl (RowG.range hC.holds hr28) row44 (by simp [cl_])) ?_
  refine wlAlloc hC hB zero44 rfl ?_; intro b31 w hk hC hB
  refine A_ rfl ?_
  refine wlStore 0 (vs := x23.cells) (cs := ((.int .i64 0) :: (Dig.zero.cells ++ ((.int .i64 0) :: [])))) (cs' := x23.cells) hC hB rfl rfl rfl sz44 rfl (by simp [cl_]) (by simp [cl_, Value.oneCell']) (by simp [cl_]) (by simp [cl_]) rfl ?_; intro w hC hB
  refine wlThen (wcSeq (wcRegion ?_))
  refine V_ (opFieldAddr rfl fo44_0) <| V_ (opLoadOne (v := (.int .i64 x23.seq)) rfl (hB.cell (i := 0) rfl (by simp [cl_])) one3) <| V_ (opFieldAddr rfl fo44_1) <| V_ (opLoadRow (cs := x23.dig.cells) rfl (hB.range (i := 0) (m := 32) rfl (by simp [cl_])) row37 (by simp [cl_])) <| V_ (B_ (ps := [(0, .tmp 20), (1, .tmp 22)]) (cs := ((.int .i64 x23.seq) :: (x23.dig.cells ++ []))) so114 zero114 rfl rfl) ?_
  refine wlAlloc hC hB zero114 rfl ?_; intro b32 w hk hC hB
  refine wlStore 0 (vs := ((.int .i64 x23.seq) :: (x23.dig.cells ++ []))) (cs := ((.int .i64 0) :: (Dig.zero.cells ++ []))) (cs' := ((.int .i64 x23.seq) :: (x23.dig.cells ++ []))) hC hB rfl rfl rfl sz114 rfl (by simp [cl_]) (by simp [cl_, Value.oneCell']) (by simp [cl_]) (by simp [cl_]) rfl ?_; intro w hC hB
  refine wlThen (wcSeq (wcRegion ?_))
  refine M_ rfl <| V_ (opFieldAddr rfl fo44_0) <| V_ (opLoadOne (v := (.int .i64 x23.seq)) rfl (hB.cell (i := 1) rfl (by simp [cl_])) one3) ?_
  obtain ⟨v33, hv34, hr35⟩ := hMoa.lookup (keyL_int ui3) mk111 zv3 rfl x23.seq
  obtain rfl := Gx.isI hv34
  refine V_ (opLookupH rfl rfl (hr35 _ _ (hC.heldAt 1 rfl))) <| V_ (opAdd rfl rfl) ?_
  obtain ⟨q36, hM37, hr38, hit39⟩ := hMoa.put (keyL_int ui3) mk111 rfl x23.seq
  refine wlMapPutH hC hB (i := 1) rfl rfl rfl rfl (hr38 _ _ (hC.heldAt 1 rfl)) rfl ?_; intro w hC hB
  refine wlThen <| wcSeq ?_
  refine wcDrawS 7 [0, 0, 3, 7, 3, 19, 63] fmix (by kernel_rfl) (by kernel_rfl) rfl hC hB ?_; intro w hC hB
  refine D_ 0 rfl rfl (fun _ => opMove rfl) <| E_ 1 rfl rfl (opLoadRow (cs := ((.int .i64 x23.seq) :: (x23.dig.cells ++ []))) rfl (hB.range (i := 0) (m := 33) rfl (by simp [cl_])) row114 (by simp [cl_])) ?_
  obtain ⟨v40, hv41, hr42⟩ := hMob_.lookup keyL98 mk112 zv3 rfl ((Mark.mk x23.seq x23.dig))
  obtain rfl := Gx.isI hv41
  refine E_ 2 rfl rfl (opLookupH rfl rfl (hr42 _ _ (hC.heldAt 0 rfl))) <| D_ 3 rfl rfl (fun _ => opAdd rfl rfl) ?_
  refine wdAll [4] (by kernel_rfl) rfl ⟨wd1 rfl ?_, trivial⟩
  intro hGd
  obtain ⟨q43, v44, sg45, hM46, hv47, hr48, hst49⟩ := hMob_.entry keyL98 mk112 zv3 rfl ((Mark.mk x23.seq x23.dig)); obtain rfl := Gx.isI hv47
  obtain ⟨v50, hv51, hr52⟩ := hM46.lookup keyL98 mk112 zv3 rfl ((Mark.mk x23.seq x23.dig)); rw [mget_mput, if_pos rfl, Option.getD_some] at hv51; obtain rfl := Gx.isI hv51
  refine wlEntryH hC hB (i := 0) rfl rfl rfl (hr48 _ _ (hC.heldAt 0 rfl)) rfl ?_; intro w hC hB
  refine wdNext hGd rfl (kpKeep rfl (kpDrop rfl kpNil)) (Tk.cons (p := (_, fun w => OpVal _ _ _ w _ _)) (opLookupH rfl rfl (hr52 _ _ (hC.heldAt 0 rfl))) (Tk.nil _)) ?_
  refine D_ 5 rfl rfl (fun _ => opExtract rfl rfl) ?_
  refine wdAll [6] (by kernel_rfl) rfl ⟨wd1 rfl ?_, trivial⟩
  intro hGd
  obtain ⟨q53, hM54, hr55⟩ := hst49 (.int .i64 (IntKind.wrap .i64 (((mget Db ((Mark.mk x23.seq x23.dig))).getD (0 : Int)) + 1))) (IntKind.wrap .i64 (((mget Db ((Mark.mk x23.seq x23.dig))).getD (0 : Int)) + 1)) rfl
  refine wlEntryStoreH hC hB (i := 0) rfl rfl rfl rfl (hr55 _ _ (hC.heldAt 0 rfl)) rfl ?_; intro w hC hB
  refine wdNext hGd rfl (kpDrop rfl kpNil) (Tk.nil _) ?_
  refine wdDone (by kernel_rfl) <| wcOf <| wcSeq ?_
  refine wcDrawS 41 [0, 1, 3, 7, 0, 16, 63, 127, 255, 511, 1023, 2047, 4095, 8191, 16383, 32767, 65535, 131071, 262143, 262143, 786431, 2097151, 4194303, 262143, 16777215, 33554431, 67108863, 134217727, 268435455, 536870911, 536870911, 1610612735, 4294967295, 8589934591, 17179869183, 34359738367, 68719476735, 68719476735, 274877906943, 549755813887, 1099511627775] fmix (by kernel_rfl) (by kernel_rfl) rfl hC hB ?_; intro w hC hB
  refine D_ 0 rfl rfl (fun _ => opMove rfl) <| D_ 1 rfl rfl (fun _ => opNilCheck rfl) <| D_ 2 rfl rfl (fun _ => (opFieldAddr rfl fo56_2)) <| E_ 3 rfl rfl (opLoadOne (v := (.map (some l2))) rfl (RowG.cell hC.holds hF13 (j := 3) rfl) one54) <| D_ 4 rfl rfl (fun _ => (opFieldAddr rfl fo44_0)) <| E_ 5 rfl rfl (opLoadOne (v := (.int .i64 x23.seq)) rfl (hB.cell (i := 1) rfl (by simp [cl_])) one3) ?_
  obtain ⟨v58, hv59, hr60⟩ := hM8.lookup (keyL_int ui3) mk54 zv75 (isPt' _ (Pt.mk none)) x23.seq
  rcases hf56 : s.f x23.seq with _ | t57
  ·
   rw [hH9.at_none hf56] at hv59
   replace hv59 : v58 = .pointer none := hv59
   subst hv59
   refine E_ 6 rfl rfl (opLookupH rfl rfl (hr60 _ _ (hl11.at_ hC.holds))) <| D_ 7 rfl rfl (fun _ => (OpVal.cast (v' := .bool true) (opPtrNil ip75 rfl rfl) rfl)) <| D_ 8 rfl rfl (fun _ => opMove rfl) <| O_ 9 rfl rfl rfl rfl rfl <| O_ 10 rfl rfl rfl rfl rfl <| O_ 11 rfl rfl rfl rfl rfl <| O_ 12 rfl rfl rfl rfl rfl <| D_ 13 rfl rfl (fun _ => opPickT rfl rfl) <| D_ 14 rfl rfl (fun _ => opMove rfl) <| O_ 15 rfl rfl rfl rfl rfl <| O_ 16 rfl rfl rfl rfl rfl <| O_ 17 rfl rfl rfl rfl rfl <| OU_ 18 rfl rfl rfl rfl <| OU_ 19 rfl rfl rfl rfl <| OU_ 20 rfl rfl rfl rfl <| OU_ 21 rfl rfl rfl rfl <| OU_ 22 rfl rfl rfl rfl <| OU_ 23 rfl rfl rfl rfl <| OU_ 24 rfl rfl rfl rfl <| OU_ 25 rfl rfl rfl rfl ?_
   refine O_ 26 rfl rfl rfl rfl rfl <| D_ 27 rfl rfl (fun _ => opPickT rfl rfl) <| D_ 28 rfl rfl (fun _ => opMove rfl) <| O_ 29 rfl rfl rfl rfl rfl <| O_ 30 rfl rfl rfl rfl rfl <| O_ 31 rfl rfl rfl rfl rfl <| O_ 32 rfl rfl rfl rfl rfl <| O_ 33 rfl rfl rfl rfl rfl <| D_ 34 rfl rfl (fun _ => opPickT rfl rfl) <| D_ 35 rfl rfl (fun _ => opMove rfl) <| O_ 36 rfl rfl rfl rfl rfl <| O_ 37 rfl rfl rfl rfl rfl <| O_ 38 rfl rfl rfl rfl rfl <| O_ 39 rfl rfl rfl rfl rfl <| D_ 40 rfl rfl (fun _ => opPickT rfl rfl) <| wdDone (by kernel_rfl) <| wcOf <| wcCondT rfl <| wcSeq <| wcRegion <| A_ rfl ?_
   refine wlThen <| wcRet ?_
   exact r1_ hQ rfl rfl (endS hC hw (by rw [← hI, drop_get hx24]; simp only [qMayG, h22, hf56, lePrev, gePrev, Option.isSome_some, Option.isSome_none, Option.isNone_some, Option.isNone_none, ta_]))
  ·
   obtain ⟨r61, hD62, hr63, hx64⟩ := hH9.res_some hL12 hf56
   rw [hD62] at hv59
   replace hv59 : v58 = .pointer (some ⟨r61.p, 0, none⟩) := hv59
   subst hv59
   have hF65 := hx64.row hr63
   have hM66 := hx64.pre
   have hM67 := hx64.com
   have hl68 := hr63.m1
   have hl69 := hr63.m2
   have hq70 := hx64.qSl hr63
   obtain ⟨A71, cap72, e73⟩ := hq70.form
   rw [e73] at hq70 hF65
   refine E_ 6 rfl rfl (opLookupH rfl rfl (hr60 _ _ (hl11.at_ hC.holds))) <| D_ 7 rfl rfl (fun _ => (OpVal.cast (v' := .bool false) (opPtrNil ip75 rfl rfl) rfl)) <| D_ 8 rfl rfl (fun _ => opMove rfl) <| DG_ 9 rfl rfl rfl rfl (fun _ => (opFieldAddr rfl fo44_2)) <| EG_ 10 rfl rfl rfl rfl (opLoadOne (v := (.int .i64 x23.view)) rfl (hB.cell (i := 1) rfl (by simp [cl_])) one3) ?_
   refine wdAll [11] (by kernel_rfl) rfl ⟨wd1 rfl ?_, trivial⟩
   intro hGd
   refine wlOn rfl rfl ?_
   refine wlCallS hC hB rfl co49 rfl rfl (viewMay_ret _ _ hC.holds x23.view) ?_; intro w hk hC hB
   refine wdNext hGd rfl (kpDrop rfl (kpDrop rfl (kpDrop rfl (kpDrop rfl kpNil)))) (Tk.nil _) ?_
   refine DG_ 12 rfl rfl rfl rfl (fun _ => opNot rfl) <| D_ 13 rfl rfl (fun _ => opPickF rfl rfl) <| D_ 14 rfl rfl (fun _ => opMove rfl) ?_
   cases h74 : (viewB x23.view)
   ·
    refine O_ 15 rfl rfl rfl rfl rfl <| O_ 16 rfl rfl rfl rfl rfl <| O_ 17 rfl rfl rfl rfl rfl <| OU_ 18 rfl rfl rfl rfl <| OU_ 19 rfl rfl rfl rfl <| OU_ 20 rfl rfl rfl rfl <| OU_ 21 rfl rfl rfl rfl <| OU_ 22 rfl rfl rfl rfl <| OU_ 23 rfl rfl rfl rfl <| OU_ 24 rfl rfl rfl rfl <| OU_ 25 rfl rfl rfl rfl <| O_ 26 rfl rfl rfl rfl rfl <| D_ 27 rfl rfl (fun _ => opPickT rfl rfl) <| D_ 28 rfl rfl (fun _ => opMove rfl) <| O_ 29 rfl rfl rfl rfl rfl <| O_ 30 rfl rfl rfl rfl rfl <| O_ 31 rfl rfl rfl rfl rfl <| O_ 32 rfl rfl rfl rfl rfl <| O_ 33 rfl rfl rfl rfl rfl <| D_ 34 rfl rfl (fun _ => opPickT rfl rfl) ?_
    refine D_ 35 rfl rfl (fun _ => opMove rfl) <| O_ 36 rfl rfl rfl rfl rfl <| O_ 37 rfl rfl rfl rfl rfl <| O_ 38 rfl rfl rfl rfl rfl <| O_ 39 rfl rfl rfl rfl rfl <| D_ 40 rfl rfl (fun _ => opPickT rfl rfl) <| wdDone (by kernel_rfl) <| wcOf <| wcCondT rfl <| wcSeq <| wcRegion <| A_ rfl <| wlThen <| wcRet ?_
    exact r1_ hQ rfl rfl (endS hC hw (by rw [← hI, drop_get hx24]; simp only [qMayG, h22, hf56, h74, lePrev, gePrev, Option.isSome_some, Option.isSome_none, Option.isNone_some, Option.isNone_none, ta_]))
   ·
    refine DG_ 15 rfl rfl rfl rfl (fun _ => opMove rfl) <| DG_ 16 rfl rfl rfl rfl (fun _ => opGtr rfl rfl) <| DG_ 17 rfl rfl rfl rfl (fun _ => opMove rfl) ?_
    cases h75 : decide (0 < ((k : Nat) : Int))
    ·
     refine O_ 18 rfl rfl rfl rfl rfl <| O_ 19 rfl rfl rfl rfl rfl <| O_ 20 rfl rfl rfl rfl rfl <| O_ 21 rfl rfl rfl rfl rfl <| O_ 22 rfl rfl rfl rfl rfl <| O_ 23 rfl rfl rfl rfl rfl <| O_ 24 rfl rfl rfl rfl rfl <| O_ 25 rfl rfl rfl rfl rfl <| DG_ 26 rfl rfl rfl rfl (fun _ => opPickF rfl rfl) <| D_ 27 rfl rfl (fun _ => opPickF rfl rfl) <| D_ 28 rfl rfl (fun _ => opMove rfl) <| DG_ 29 rfl rfl rfl rfl (fun _ => opMove rfl) <| DG_ 30 rfl rfl rfl rfl (fun _ => (opFieldAddr rfl fo44_0)) <| EG_ 31 rfl rfl rfl rfl (opLoadOne (v := (.int .i64 x23.seq)) rfl (hB.cell (i := 1) rfl (by simp [cl_])) one3) ?_
     obtain ⟨v76, hv77, hr78⟩ := hM37.lookup (keyL_int ui3) mk111 zv3 rfl x23.seq
     obtain rfl := Gx.isI hv77
     refine EG_ 32 rfl rfl rfl rfl (opLookupH rfl rfl (hr78 _ _ (hC.heldAt 1 rfl))) <| DG_ 33 rfl rfl rfl rfl (fun _ => opGtr rfl rfl) <| D_ 34 rfl rfl (fun _ => opPickF rfl rfl) <| D_ 35 rfl rfl (fun _ => opMove rfl) ?_
     cases h79 : decide (4 < ((mget ((mput Da x23.seq (IntKind.wrap .i64 (((mget Da x23.seq).getD (0 : Int)) + 1)))) x23.seq).getD (0 : Int)))
     ·
      refine DG_ 36 rfl rfl rfl rfl (fun _ => opMove rfl) <| EG_ 37 rfl rfl rfl rfl (opLoadRow (cs := ((.int .i64 x23.seq) :: (x23.dig.cells ++ []))) rfl (hB.range (i := 0) (m := 33) rfl (by simp [cl_])) row114 (by simp [cl_])) ?_
      obtain ⟨v80, hv81, hr82⟩ := hM54.lookup keyL98 mk112 zv3 rfl ((Mark.mk x23.seq x23.dig))
      obtain rfl := Gx.isI hv81
      refine EG_ 38 rfl rfl rfl rfl (opLookupH rfl rfl (hr82 _ _ (hC.heldAt 0 rfl))) <| DG_ 39 rfl rfl rfl rfl (fun _ => opGtr rfl rfl) <| D_ 40 rfl rfl (fun _ => opPickF rfl rfl) <| wdDone (by kernel_rfl) <| wcOf ?_
      cases h83 : decide (1 < ((mget ((mput Db ((Mark.mk x23.seq x23.dig)) (IntKind.wrap .i64 (((mget Db ((Mark.mk x23.seq x23.dig))).getD (0 : Int)) + 1)))) ((Mark.mk x23.seq x23.dig))).getD (0 : Int)))
      ·
       refine wcCondF rfl <| wcSkip <| wcOf <| wcRegion <| V_ (opIncr rfl rfl (incr_ok (of_decide_eq_true h22) hl.le)) <| M_ rfl <| wlRound ?_
       exact (IH0 (k + 1, q36, (mput Da x23.seq (IntKind.wrap .i64 (((mget Da x23.seq).getD (0 : Int)) + 1))), q53, (mput Db ((Mark.mk x23.seq x23.dig)) (IntKind.wrap .i64 (((mget Db ((Mark.mk x23.seq x23.dig))).getD (0 : Int)) + 1)))) _ _ ⟨hC, hB.tail.tail, hn7, hOs, hs, hM8, hH9, hb10, hl11, hL12, hl, hF13, hM37, hM54, (by rw [← hI, drop_get hx24]; simp only [qMayG, h22, hf56, h74, h75, h79, h83, prevQ_zero h75, prevQ_succ hx24, lePrev, gePrev, Option.isSome_some, Option.isSome_none, Option.isNone_some, Option.isNone_none, ta_])⟩ (by have := of_decide_eq_true h22; simp; omega)).sub (fun _ ha => (((((((ha.start.c ha 0 rfl).c ha 1 rfl).c ha 5 rfl).c ha 6 rfl).c ha 12 rfl).c ha 13 rfl).c ha 14 rfl))
      ·
       refine wcCondT rfl <| wcSeq <| wcRegion <| A_ rfl <| wlThen <| wcRet ?_
       exact r1_ hQ rfl rfl (endS hC hw (by rw [← hI, drop_get hx24]; simp only [qMayG, h22, hf56, h74, h75, h79, h83, prevQ_zero h75, lePrev, gePrev, Option.isSome_some, Option.isSome_none, Option.isNone_some, Option.isNone_none, ta_]))
     ·
      refine O_ 36 rfl rfl rfl rfl rfl <| O_ 37 rfl rfl rfl rfl rfl <| O_ 38 rfl rfl rfl rfl rfl <| O_ 39 rfl rfl rfl rfl rfl <| D_ 40 rfl rfl (fun _ => opPickT rfl rfl) <| wdDone (by kernel_rfl) <| wcOf <| wcCondT rfl <| wcSeq <| wcRegion <| A_ rfl <| wlThen <| wcRet ?_
      exact r1_ hQ rfl rfl (endS hC hw (by rw [← hI, drop_get hx24]; simp only [qMayG, h22, hf56, h74, h75, h79, prevQ_zero h75, lePrev, gePrev, Option.isSome_some, Option.isSome_none, Option.isNone_some, Option.isNone_none, ta_]))
    ·
     refine DG_ 18 rfl rfl rfl rfl (fun _ => opMove rfl) <| DG_ 19 rfl rfl rfl rfl (fun _ => opMove rfl) <| DG_ 20 rfl rfl rfl rfl (fun _ => (opDecr rfl rfl (Int.ofNat_lt.1 (of_decide_eq_true h75)) (incr_ok (of_decide_eq_true h22) hl.le))) ?_
     obtain ⟨x84, hx85⟩ : ∃ y_, l[(k - 1)]? = some y_ := ⟨_, List.getElem?_eq_getElem (by have q := of_decide_eq_true h22; omega)⟩
     obtain ⟨row88, hr89, hi90⟩ := Sl.elem' hl hx85
     obtain rfl := hi90
     refine DG_ 21 rfl rfl rfl rfl (fun _ => (opIndexAddr rfl rfl slo38 (by have q := of_decide_eq_true h22; omega))) <| EG_ 22 rfl rfl rfl rfl (opLoadRow (cs := x84.cells) rfl (RowG.range hC.holds hr89) row44 (by simp [cl_])) <| EG_ 23 rfl rfl rfl rfl (opLoadRow (cs := x23.cells) rfl (hB.range (i := 1) (m := 34) rfl (by simp [cl_])) row44 (by simp [cl_])) ?_
     refine wdAll [24] (by kernel_rfl) rfl ⟨wd1 rfl ?_, trivial⟩
     intro hGd
     refine wlOn rfl rfl ?_
     refine wlCallS hC hB rfl co54 rfl rfl (order_ret _ _ hC.holds x84 x23) ?_; intro w hk hC hB
     refine wdNext hGd rfl (kpDrop rfl (kpDrop rfl kpNil)) (Tk.nil _) ?_
     refine DG_ 25 rfl rfl rfl rfl (fun _ => opGeq rfl rfl) <| DG_ 26 rfl rfl rfl rfl (fun _ => opPickT rfl rfl) <| D_ 27 rfl rfl (fun _ => opPickF rfl rfl) <| D_ 28 rfl rfl (fun _ => opMove rfl) ?_
     cases h92 : decide (0 ≤ ((ordS x84 x23)))
     ·
      refine DG_ 29 rfl rfl rfl rfl (fun _ => opMove rfl) <| DG_ 30 rfl rfl rfl rfl (fun _ => (opFieldAddr rfl fo44_0)) <| EG_ 31 rfl rfl rfl rfl (opLoadOne (v := (.int .i64 x23.seq)) rfl (hB.cell (i := 1) rfl (by simp [cl_])) one3) ?_
      obtain ⟨v93, hv94, hr95⟩ := hM37.lookup (keyL_int ui3) mk111 zv3 rfl x23.seq
      obtain rfl := Gx.isI hv94
      refine EG_ 32 rfl rfl rfl rfl (opLookupH rfl rfl (hr95 _ _ (hC.heldAt 1 rfl))) <| DG_ 33 rfl rfl rfl rfl (fun _ => opGtr rfl rfl) <| D_ 34 rfl rfl (fun _ => opPickF rfl rfl) <| D_ 35 rfl rfl (fun _ => opMove rfl) ?_
      cases h96 : decide (4 < ((mget ((mput Da x23.seq (IntKind.wrap .i64 (((mget Da x23.seq).getD (0 : Int)) + 1)))) x23.seq).getD (0 : Int)))
      ·
       refine DG_ 36 rfl rfl rfl rfl (fun _ => opMove rfl) <| EG_ 37 rfl rfl rfl rfl (opLoadRow (cs := ((.int .i64 x23.seq) :: (x23.dig.cells ++ []))) rfl (hB.range (i := 0) (m := 33) rfl (by simp [cl_])) row114 (by simp [cl_])) ?_
       obtain ⟨v97, hv98, hr99⟩ := hM54.lookup keyL98 mk112 zv3 rfl ((Mark.mk x23.seq x23.dig))
       obtain rfl := Gx.isI hv98
       refine EG_ 38 rfl rfl rfl rfl (opLookupH rfl rfl (hr99 _ _ (hC.heldAt 0 rfl))) <| DG_ 39 rfl rfl rfl rfl (fun _ => opGtr rfl rfl) <| D_ 40 rfl rfl (fun _ => opPickF rfl rfl) <| wdDone (by kernel_rfl) <| wcOf ?_
       cases h100 : decide (1 < ((mget ((mput Db ((Mark.mk x23.seq x23.dig)) (IntKind.wrap .i64 (((mget Db ((Mark.mk x23.seq x23.dig))).getD (0 : Int)) + 1)))) ((Mark.mk x23.seq x23.dig))).getD (0 : Int)))
       ·
        refine wcCondF rfl <| wcSkip <| wcOf <| wcRegion <| V_ (opIncr rfl rfl (incr_ok (of_decide_eq_true h22) hl.le)) <| M_ rfl <| wlRound ?_
        exact (IH0 (k + 1, q36, (mput Da x23.seq (IntKind.wrap .i64 (((mget Da x23.seq).getD (0 : Int)) + 1))), q53, (mput Db ((Mark.mk x23.seq x23.dig)) (IntKind.wrap .i64 (((mget Db ((Mark.mk x23.seq x23.dig))).getD (0 : Int)) + 1)))) _ _ ⟨hC, hB.tail.tail, hn7, hOs, hs, hM8, hH9, hb10, hl11, hL12, hl, hF13, hM37, hM54, (by rw [← hI, drop_get hx24]; simp only [qMayG, h22, hf56, h74, h75, h92, h96, h100, prevQ_of h75 hx85, prevQ_succ hx24, lePrev, gePrev, Option.isSome_some, Option.isSome_none, Option.isNone_some, Option.isNone_none, ta_])⟩ (by have := of_decide_eq_true h22; have := of_decide_eq_true h75; simp; omega)).sub (fun _ ha => (((((((ha.start.c ha 0 rfl).c ha 1 rfl).c ha 5 rfl).c ha 6 rfl).c ha 12 rfl).c ha 13 rfl).c ha 14 rfl))
       ·
        refine wcCondT rfl <| wcSeq <| wcRegion <| A_ rfl <| wlThen <| wcRet ?_
        exact r1_ hQ rfl rfl (endS hC hw (by rw [← hI, drop_get hx24]; simp only [qMayG, h22, hf56, h74, h75, h92, h96, h100, prevQ_of h75 hx85, lePrev, gePrev, Option.isSome_some, Option.isSome_none, Option.isNone_some, Option.isNone_none, ta_]))
      ·
       refine O_ 36 rfl rfl rfl rfl rfl <| O_ 37 rfl rfl rfl rfl rfl <| O_ 38 rfl rfl rfl rfl rfl <| O_ 39 rfl rfl rfl rfl rfl <| D_ 40 rfl rfl (fun _ => opPickT rfl rfl) <| wdDone (by kernel_rfl) <| wcOf <| wcCondT rfl <| wcSeq <| wcRegion <| A_ rfl <| wlThen <| wcRet ?_
       exact r1_ hQ rfl rfl (endS hC hw (by rw [← hI, drop_get hx24]; simp only [qMayG, h22, hf56, h74, h75, h92, h96, prevQ_of h75 hx85, lePrev, gePrev, Option.isSome_some, Option.isSome_none, Option.isNone_some, Option.isNone_none, ta_]))
     ·
      refine O_ 29 rfl rfl rfl rfl rfl <| O_ 30 rfl rfl rfl rfl rfl <| O_ 31 rfl rfl rfl rfl rfl <| O_ 32 rfl rfl rfl rfl rfl <| O_ 33 rfl rfl rfl rfl rfl <| D_ 34 rfl rfl (fun _ => opPickT rfl rfl) <| D_ 35 rfl rfl (fun _ => opMove rfl) <| O_ 36 rfl rfl rfl rfl rfl <| O_ 37 rfl rfl rfl rfl rfl <| O_ 38 rfl rfl rfl rfl rfl <| O_ 39 rfl rfl rfl rfl rfl <| D_ 40 rfl rfl (fun _ => opPickT rfl rfl) <| wdDone (by kernel_rfl) <| wcOf <| wcCondT rfl <| wcSeq <| wcRegion <| A_ rfl <| wlThen <| wcRet ?_
      exact r1_ hQ rfl rfl (endS hC hw (by rw [← hI, drop_get hx24]; simp only [qMayG, h22, hf56, h74, h75, h92, prevQ_of h75 hx85, lePrev, gePrev, Option.isSome_some, Option.isSome_none, Option.isNone_some, Option.isNone_none, ta_]))

theorem propose_ret (G0 : Gh) (w0 : World) (hw : Holds G0 w0) (bs : Nat) (Os : List (Nat × Obj)) (s : SlS) (hOs : ∀ x ∈ Os, w0.heap[x.1]? = some x.2 ∧ G0 x.1 = none) (hds : (Os.map (·.1)).Nodup) (hs : SlO G0 bs Os s) (v : Int) (k : Int) (d : Dig) (hsil : RowG G0 0 0 silence.cells) (hok : SlOk s) :
  RetT Tryz.prog 13 #[.pointer (some ⟨bs, 0, none⟩), .int .i64 v, .int .i64 k, .agg d.cells.toArray] G0 w0 (List.map (·.1) Os) (fun G O v_ => SlO G bs O (propI s v k d).1 ∧ v_ = .int .i64 (propI s v k d).2) := by
 have hC := Cx.refl hw
 have hB : Bxs G0 w0 w0.heap.size [] := Bxs.nil _ _ _
 obtain ⟨v1, l2, om3, D4, H5, rfl, hn6, hM7, hH8⟩ := hs
 obtain ⟨A9, cap10, rfl⟩ := hn6.form
 have hC := Cx.reflH ((bs, .cells [(.int .i64 s.crew.faults), (.slice A9 s.crew.nodes.length cap10), (.int .i64 s.low), (.map (some l2))].toArray 56 (0, 0)) :: (l2, om3) :: H5) (List.map (·.1) ((bs, .cells [(.int .i64 s.crew.faults), (.slice A9 s.crew.nodes.length cap10), (.int .i64 s.low), (.map (some l2))].toArray 56 (0, 0)) :: (l2, om3) :: H5)) hw (fun x hx => ⟨(hOs x hx).1, (hOs x hx).2, List.mem_map.2 ⟨x, hx, rfl⟩⟩) hds
 have hB : Bxs G0 w0 w0.heap.size [] ⟨(List.map (·.1) ((bs, .cells [(.int .i64 s.crew.faults), (.slice A9 s.crew.nodes.length cap10), (.int .i64 s.low), (.map (some l2))].toArray 56 (0, 0)) :: (l2, om3) :: H5)), ((bs, .cells [(.int .i64 s.crew.faults), (.slice A9 s.crew.nodes.length cap10), (.int .i64 s.low), (.map (some l2))].toArray 56 (0, 0)) :: (l2, om3) :: H5)⟩ := Bxs.nil _ _ _
 refine callsOf Tryz.func13 rfl _ Tryz.ntmps13 rfl _ (argsCons (argsCons (argsCons (argsCons argsNil (t := 0) rfl) (t := 1) rfl) (t := 2) rfl) (t := 3) rfl) ?_; intro Q0 hQ
 refine wcSeq <| wcRegion ?_
 refine wlBox (cs := d.cells) hC hB rfl rfl rfl ?_; intro b11 w hk hC hB
 refine A_ rfl ?_
 refine wlThen (wcSeq (wcSeq (wcRegion ?_)))
 refine M_ rfl ?_
 refine wlCallS hC hB rfl co48 rfl rfl (RetS.lend hC (fun G_ hg_ hh_ hL_ => none_ret _ _ hh_ bs l2 _ s (hL_ (bs, .cells [(.int .i64 s.crew.faults), (.slice A9 s.crew.nodes.length cap10), (.int .i64 s.low), (.map (some l2))].toArray 56 (0, 0)) (by simp)) (hn6.mono hg_))) ?_; intro w hk hC hB
 refine wlThen <| wcCondF rfl <| wcSkip <| wcOf <| wcSeq <| wcRegion <| M_ rfl <| V_ (opNilCheck rfl) <| V_ (opFieldAddr rfl fo56_2) <| V_ (opLoadOne (v := (.map (some l2))) rfl (hC.hcell 0 rfl (o := 3) rfl) one54) <| M_ rfl ?_
 obtain ⟨v14, hv15, hr16⟩ := hM7.lookup (keyL_int ui3) mk54 zv75 (isPt' _ (Pt.mk none)) k
 rcases hf12 : s.f k with _ | t13
 ·
  rw [hH8.at_none hf12] at hv15
  replace hv15 : v14 = .pointer none := hv15
  subst hv15
  refine V_ (opLookupH rfl rfl (hr16 _ _ (hC.heldAt 1 rfl))) <| A_ rfl <| wlThen <| wcSeq ?_
  refine wcBlock (wcSeq (wcRegion ?_))
  refine M_ rfl ?_
  refine wlCallS hC hB rfl co49 rfl rfl (viewMay_ret _ _ hC.holds v) ?_; intro w hk hC hB
  refine V_ (opNot rfl) <| A_ rfl <| wlThen ?_
  cases h17 : (viewB v)
  ·
   refine wcCondT rfl <| wcSeq <| wcRegion <| A_ rfl <| wlThen <| wcRet ?_
   exact r1_ hQ rfl rfl (endT hC _ ⟨[], List.Perm.of_eq (List.append_nil _).symm⟩ ⟨(by have e_ : (propI s v k d).1 = s := (by simp only [propI, propS, propQ, hf12, h17, ta_, zne]); rw [e_]; exact ⟨_, _, _, _, _, rfl, hn6, hM7, hH8⟩), (by simp only [propI, hf12, h17, ta_, zne])⟩)
  ·
   refine wcCondF rfl <| wcSeq <| wcRegion <| M_ rfl <| V_ (OpVal.cast (v' := .bool true) (opPtrNil ip75 rfl rfl) rfl) <| A_ rfl <| wlThen <| wcCondT rfl <| wcSeq <| wcRegion <| A_ rfl <| wlThen <| wcRet ?_
   exact r1_ hQ rfl rfl (endT hC _ ⟨[], List.Perm.of_eq (List.append_nil _).symm⟩ ⟨(by have e_ : (propI s v k d).1 = s := (by simp only [propI, propS, propQ, hf12, h17, ta_, zne]); rw [e_]; exact ⟨_, _, _, _, _, rfl, hn6, hM7, hH8⟩), (by simp only [propI, hf12, h17, ta_, zne])⟩)
 ·
  obtain ⟨r18, H19, hD20, hS21, hp22, hR23⟩ := hH8.at_some hf12
  rw [hD20] at hv15
  replace hv15 : v14 = .pointer (some ⟨r18.p, 0, none⟩) := hv15
  subst hv15
  refine V_ (opLookupH rfl rfl (hr16 _ _ (hC.heldAt 1 rfl))) ?_
  have hM24 := hS21.pre
  have hM25 := hS21.com
  have hq26 := hS21.q
  have hc27 : r18.c = ((.int .i64 t13.last.view) :: (t13.last.dig.cells ++ ((.int .i64 t13.prep.view) :: (t13.prep.dig.cells ++ ((.map (some r18.m1)) :: ((.map (some r18.m2)) :: (r18.vq :: []))))))) := hS21.c
  replace hC : Cx w0 G0 G0 w ⟨(List.map (·.1) ((bs, .cells [(.int .i64 s.crew.faults), (.slice A9 s.crew.nodes.length cap10), (.int .i64 s.low), (.map (some l2))].toArray 56 (0, 0)) :: (l2, om3) :: H5)), ((bs, .cells [(.int .i64 s.crew.faults), (.slice A9 s.crew.nodes.length cap10), (.int .i64 s.low), (.map (some l2))].toArray 56 (0, 0)) :: (l2, om3) :: (r18.p, .cells ((.int .i64 t13.last.view) :: (t13.last.dig.cells ++ ((.int .i64 t13.prep.view) :: (t13.prep.dig.cells ++ ((.map (some r18.m1)) :: ((.map (some r18.m2)) :: (r18.vq :: []))))))).toArray 81 (0, 0)) :: (r18.m1, r18.o1) :: (r18.m2, r18.o2) :: (ob r18.oq ++ H19))⟩ := by rw [← hc27]; exact hC.permH ((hp22.cons _).cons _)
  replace hB : Bxs G0 w w0.heap.size [(b11, 37, d.cells)] ⟨(List.map (·.1) ((bs, .cells [(.int .i64 s.crew.faults), (.slice A9 s.crew.nodes.length cap10), (.int .i64 s.low), (.map (some l2))].toArray 56 (0, 0)) :: (l2, om3) :: H5)), ((bs, .cells [(.int .i64 s.crew.faults), (.slice A9 s.crew.nodes.length cap10), (.int .i64 s.low), (.map (some l2))].toArray 56 (0, 0)) :: (l2, om3) :: (r18.p, .cells ((.int .i64 t13.last.view) :: (t13.last.dig.cells ++ ((.int .i64 t13.prep.view) :: (t13.prep.dig.cells ++ ((.map (some r18.m1)) :: ((.map (some r18.m2)) :: (r18.vq :: []))))))).toArray 81 (0, 0)) :: (r18.m1, r18.o1) :: (r18.m2, r18.o2) :: (ob r18.oq ++ H19))⟩ := by rw [← hc27]; exact hB.permH ((hp22.cons _).cons _)
  refine A_ rfl <| wlThen <| wcSeq ?_
  refine wcBlock (wcSeq (wcRegion ?_))
  refine M_ rfl ?_
  refine wlCallS hC hB rfl co49 rfl rfl (viewMay_ret _ _ hC.holds v) ?_; intro w hk hC hB
  refine V_ (opNot rfl) <| A_ rfl <| wlThen ?_
  cases h28 : (viewB v)
  ·
   refine wcCondT rfl <| wcSeq <| wcRegion <| A_ rfl <| wlThen <| wcRet ?_
   exact r1_ hQ rfl rfl (endT hC _ ⟨[], List.Perm.of_eq (List.append_nil _).symm⟩ ⟨(by have e_ : (propI s v k d).1 = (SlS.mk s.crew s.low (upd s.f k t13)) := (by rw [show (SlS.mk s.crew s.low (upd s.f k t13)) = s from slS_self hf12]; simp only [propI, propS, propQ, hf12, h28, ta_, zne]); rw [e_]; exact ⟨_, _, _, _, _, rfl, hn6, hM7, (hR23 _ ⟨r18.p, r18.m1, r18.m2, ((Value.int .i64 t13.last.view) :: (t13.last.dig.cells ++ ((Value.int .i64 t13.prep.view) :: (t13.prep.dig.cells ++ ((Value.map (some r18.m1)) :: ((Value.map (some r18.m2)) :: (r18.vq :: []))))))), r18.o1, r18.o2, r18.vq, r18.oq⟩ t13 (fun _ _ h => h) rfl ⟨rfl, hM24, hM25, hq26, hS21.ql⟩)⟩), (by simp only [propI, hf12, h28, ta_, zne])⟩)
  ·
   refine wcCondF rfl <| wcSeq <| wcRegion <| M_ rfl <| V_ (OpVal.cast (v' := .bool false) (opPtrNil ip75 rfl rfl) rfl) <| A_ rfl <| wlThen <| wcCondF rfl <| wcSkip <| wcOf <| wcSeq <| wcSeq ?_
   refine wcDrawS 8 [0, 1, 3, 7, 0, 0, 63, 127] fmix (by kernel_rfl) (by kernel_rfl) rfl hC hB ?_; intro w hC hB
   refine D_ 0 rfl rfl (fun _ => opMove rfl) <| D_ 1 rfl rfl (fun _ => opNilCheck rfl) <| D_ 2 rfl rfl (fun _ => (opFieldAddr rfl fo81_0)) <| E_ 3 rfl rfl (opLoadRow (cs := t13.last.cells) rfl (hC.hrange 2 rfl (o := 0) (m := 33) (by simp [cl_])) row78 (by simp [cl_])) <| D_ 4 rfl rfl (fun _ => opMove rfl) <| E_ 5 rfl rfl (opLoadRow (cs := d.cells) rfl (hB.range (i := 0) (m := 32) rfl (by simp [cl_])) row37 (by simp [cl_])) ?_
   refine wdAll [6] (by kernel_rfl) rfl ⟨wd1 rfl ?_, trivial⟩
   intro hGd
   refine wlCallS hC hB rfl co50 rfl rfl (goes_ret _ _ hC.holds t13.last v d) ?_; intro w hk hC hB
   refine wdNext hGd rfl (kpDrop rfl (kpDrop rfl kpNil)) (Tk.nil _) ?_
   refine D_ 7 rfl rfl (fun _ => opAssign rfl) <| wdDone (by kernel_rfl) <| wcOf <| wcSeq <| wcRegion <| M_ rfl <| V_ (opNeq rfl rfl) <| wlThen ?_
   cases h29 : (((goesI t13.last v d))) != 0
   ·
    refine wcCondF rfl <| wcSkip <| wcOf <| wcSeq <| wcRegion <| M_ rfl <| M_ rfl <| V_ (opLoadRow (cs := d.cells) rfl (hB.range (i := 0) (m := 32) rfl (by simp [cl_])) row37 (by simp [cl_])) <| V_ (B_ (ps := [(0, .tmp 38), (1, .tmp 39)]) (cs := ((.int .i64 v) :: (d.cells ++ []))) so78 zero78 rfl rfl) <| V_ (opNilCheck rfl) <| V_ (opFieldAddr rfl fo81_0) ?_
    obtain ⟨hC, hB⟩ := unhold hC hB (i := 2) rfl
    refine wlStore 0 (vs := ((.int .i64 v) :: (d.cells ++ []))) (cs := ((.int .i64 t13.last.view) :: (t13.last.dig.cells ++ ((.int .i64 t13.prep.view) :: (t13.prep.dig.cells ++ ((.map (some r18.m1)) :: ((.map (some r18.m2)) :: (r18.vq :: [])))))))) (cs' := ((.int .i64 v) :: (d.cells ++ ((.int .i64 t13.prep.view) :: (t13.prep.dig.cells ++ ((.map (some r18.m1)) :: ((.map (some r18.m2)) :: (r18.vq :: [])))))))) hC hB rfl rfl rfl sz78 rfl (by simp [cl_]) (by simp [cl_, Value.oneCell']) (by simp [cl_]) (by simp [cl_]) rfl ?_; intro w hC hB
    obtain ⟨hC, hB⟩ := hold hC hB (i := 0) rfl
    replace hC := hC.permH (List.perm_middle (l₁ := [(bs, Obj.cells [(.int .i64 s.crew.faults), (.slice A9 s.crew.nodes.length cap10), (.int .i64 s.low), (.map (some l2))].toArray 56 (0, 0)), (l2, om3)]) (l₂ := ((r18.m1, r18.o1) :: (r18.m2, r18.o2) :: (ob r18.oq ++ H19)))).symm
    replace hB := hB.permH (List.perm_middle (l₁ := [(bs, Obj.cells [(.int .i64 s.crew.faults), (.slice A9 s.crew.nodes.length cap10), (.int .i64 s.low), (.map (some l2))].toArray 56 (0, 0)), (l2, om3)]) (l₂ := ((r18.m1, r18.o1) :: (r18.m2, r18.o2) :: (ob r18.oq ++ H19)))).symm
    refine wlThen (wcSeq (wcRegion ?_))
    refine M_ rfl <| V_ (opNilCheck rfl) <| V_ (opFieldAddr rfl fo81_4) ?_
    obtain ⟨A30, cap31, e32⟩ := hq26.form
    rw [e32] at hq26 hC hB
    replace hC := hC.permH (List.perm_append_comm_assoc [(bs, Obj.cells [(Value.int .i64 s.crew.faults), (Value.slice A9 s.crew.nodes.length cap10), (Value.int .i64 s.low), (Value.map (some l2))].toArray 56 (0, 0)), (l2, om3), (r18.p, Obj.cells ((Value.int .i64 v) :: (d.cells ++ ((Value.int .i64 t13.prep.view) :: (t13.prep.dig.cells ++ ((Value.map (some r18.m1)) :: ((Value.map (some r18.m2)) :: ((Value.slice A30 t13.q.length cap31) :: []))))))).toArray 81 (0, 0)), (r18.m1, r18.o1), (r18.m2, r18.o2)] (ob r18.oq) H19)
    replace hB := hB.permH (List.perm_append_comm_assoc [(bs, Obj.cells [(Value.int .i64 s.crew.faults), (Value.slice A9 s.crew.nodes.length cap10), (Value.int .i64 s.low), (Value.map (some l2))].toArray 56 (0, 0)), (l2, om3), (r18.p, Obj.cells ((Value.int .i64 v) :: (d.cells ++ ((Value.int .i64 t13.prep.view) :: (t13.prep.dig.cells ++ ((Value.map (some r18.m1)) :: ((Value.map (some r18.m2)) :: ((Value.slice A30 t13.q.length cap31) :: []))))))).toArray 81 (0, 0)), (r18.m1, r18.o1), (r18.m2, r18.o2)] (ob r18.oq) H19)
    obtain ⟨hC, hB⟩ := unholdO (o := r18.oq) (L := [(bs, Obj.cells [(Value.int .i64 s.crew.faults), (Value.slice A9 s.crew.nodes.length cap10), (Value.int .i64 s.low), (Value.map (some l2))].toArray 56 (0, 0)), (l2, om3), (r18.p, Obj.cells ((Value.int .i64 v) :: (d.cells ++ ((Value.int .i64 t13.prep.view) :: (t13.prep.dig.cells ++ ((Value.map (some r18.m1)) :: ((Value.map (some r18.m2)) :: ((Value.slice A30 t13.q.length cap31) :: []))))))).toArray 81 (0, 0)), (r18.m1, r18.o1), (r18.m2, r18.o2)] ++ H19) (bl := [(b11, 37, d.cells)]) (r := []) hC (by first | exact hB | simpa using hB)
    refine V_ (opLoadOne (v := (.slice A30 t13.q.length cap31)) rfl (hC.hcell 2 rfl (o := 68) (by simp [cl_])) one38) ?_
    obtain ⟨G, hg34, hC, hB, hF33⟩ := freezeBox (cs := d.cells) hC (Nat.le_refl _) hB (i := 0) rfl (cover hp22 rfl rfl)
    replace hn6 := hn6.mono hg34; replace hM7 := hM7.mono hg34; replace hM24 := hM24.mono hg34; replace hM25 := hM25.mono hg34; replace hR23 := hR23.mono hg34; replace hq26 := hq26.mono hg34
    replace hsil := hsil.mono hg34
    refine V_ (opMakeFunc (fun a ha => ha.evals (xs := []) rfl) (fun a ha => ha.evals (xs := [.tmp 7]) rfl)) ?_
    refine wlCallP (bl := []) (o := r18.oq) (r := []) hC hB rfl co51 rfl rfl (delf_ret _ _ hC.holds _ t13.q _ hq26 (Bxs.mine (bl := []) (r := []) hB) 52 [(.pointer (some ⟨b11, 0, none⟩))] (fun f_x0 => decide (f_x0.dig = d)) co52 (fun G w f_x0 hg hw  => prop1_ret G w hw f_x0 _ d (hF33.mono hg) ) (by have q1 := List.length_filter_le (fun a => !decide (a.dig = d)) t13.q; have q2 := hok.q4 _ _ hf12; omega)) ?_; rintro v40 G o37 w hg39 hk hC hB ⟨A35, cap36, rfl, hO38⟩
    replace hn6 := hn6.mono hg39; replace hM7 := hM7.mono hg39; replace hM24 := hM24.mono hg39; replace hM25 := hM25.mono hg39; replace hR23 := hR23.mono hg39
    replace hsil := hsil.mono hg39
    replace hF33 := hF33.mono hg39
    refine A_ rfl ?_
    refine wlThen (wcSeq (wcSeq (wcRegion ?_)))
    refine M_ rfl <| V_ (opLen rfl isl38) <| V_ (opGeq rfl rfl) <| wlThen ?_
    cases h41 : decide (4 ≤ (((((t13.q.filter (fun dz_ => !(fun f_x0 => decide (f_x0.dig = d)) dz_)))).length : Nat) : Int))
    ·
     refine wcCondF rfl <| wcSkip <| wcOf <| wcSeq <| wcRegion <| M_ rfl <| M_ rfl <| M_ rfl <| V_ (opLoadRow (cs := d.cells) rfl (RowG.range hC.holds (hF33.part (i := 0) (m := 32) (by simp [cl_]))) row37 (by simp [cl_])) <| M_ rfl <| V_ (B_ (ps := [(0, .tmp 56), (1, .tmp 57), (2, .tmp 58)]) (cs := ((.int .i64 k) :: (d.cells ++ ((.int .i64 v) :: [])))) so44 zero44 rfl rfl) ?_
     refine wlBuildSlice (α := Stand) (ps := [(0, .tmp 59)]) (xs := [(Stand.mk k d v)]) (rows := [((.int .i64 k) :: (d.cells ++ ((.int .i64 v) :: [])))]) elo38 rfl rfl hC hB rfl rfl rfl ⟨rfl, trivial⟩ rfl ?_; intro b42 G w hk hC hB hs43
     replace hn6 := hn6.mono hk.gle; replace hM7 := hM7.mono hk.gle; replace hM24 := hM24.mono hk.gle; replace hM25 := hM25.mono hk.gle; replace hR23 := hR23.mono hk.gle; replace hO38 := hO38.mono hk.gle
     replace hsil := hsil.mono hk.gle
     replace hF33 := hF33.mono hk.gle
     refine wlAppend (α := Stand) (bl := []) (o := o37) (r := []) elo38 hC hB rfl rfl hO38 hs43 (by have q1 := List.length_filter_le (fun a => !decide (a.dig = d)) t13.q; have q2 := hok.q4 _ _ hf12; simp; omega) rfl rfl ?_; intro A44 cap45 o46 w hC hB hO47
     refine V_ (opNilCheck rfl) <| V_ (opFieldAddr rfl fo81_4) ?_
     obtain ⟨hC, hB⟩ := unhold hC hB (i := 2) rfl
     refine wlStore 0 (vs := [(.slice A44 (((((t13.q.filter (fun dz_ => !(fun f_x0 => decide (f_x0.dig = d)) dz_))) ++ [(Stand.mk k d v)])).length) cap45)]) (cs := ((.int .i64 v) :: (d.cells ++ ((.int .i64 t13.prep.view) :: (t13.prep.dig.cells ++ ((.map (some r18.m1)) :: ((.map (some r18.m2)) :: ((.slice A30 t13.q.length cap31) :: [])))))))) (cs' := ((.int .i64 v) :: (d.cells ++ ((.int .i64 t13.prep.view) :: (t13.prep.dig.cells ++ ((.map (some r18.m1)) :: ((.map (some r18.m2)) :: ((.slice A44 (((((t13.q.filter (fun dz_ => !(fun f_x0 => decide (f_x0.dig = d)) dz_))) ++ [(Stand.mk k d v)])).length) cap45) :: [])))))))) hC hB rfl rfl rfl sz38 rfl rfl rfl (by simp [cl_]) (by simp [cl_]) rfl ?_; intro w hC hB
     obtain ⟨hC, hB⟩ := hold hC hB (i := 0) rfl
     replace hC := hC.permH (List.perm_middle (l₁ := [(bs, Obj.cells [(.int .i64 s.crew.faults), (.slice A9 s.crew.nodes.length cap10), (.int .i64 s.low), (.map (some l2))].toArray 56 (0, 0)), (l2, om3)]) (l₂ := ((r18.m1, r18.o1) :: (r18.m2, r18.o2) :: H19))).symm
     replace hB := hB.permH (List.perm_middle (l₁ := [(bs, Obj.cells [(.int .i64 s.crew.faults), (.slice A9 s.crew.nodes.length cap10), (.int .i64 s.low), (.map (some l2))].toArray 56 (0, 0)), (l2, om3)]) (l₂ := ((r18.m1, r18.o1) :: (r18.m2, r18.o2) :: H19))).symm
     refine wlThen (wcSeq (wcRegion ?_))
     refine M_ rfl <| V_ (opNilCheck rfl) <| V_ (opFieldAddr rfl fo81_4) <| V_ (opLoadOne (v := (.slice A44 (((((t13.q.filter (fun dz_ => !(fun f_x0 => decide (f_x0.dig = d)) dz_))) ++ [(Stand.mk k d v)])).length) cap45)) rfl (hC.hcell 2 rfl (o := 68) (by simp [cl_])) one38) ?_
     refine wlCallP (bl := []) (o := o46) (r := []) hC hB rfl co53 rfl rfl (sort_ret _ _ hC.holds _ ((((t13.q.filter (fun dz_ => !(fun f_x0 => decide (f_x0.dig = d)) dz_))) ++ [(Stand.mk k d v)])) _ hO47 (Bxs.mine (bl := []) (r := []) hB) 54 [] (fun f_x0 f_x1 => (ordS f_x0 f_x1)) co54 (fun G w f_x0 f_x1 hg hw  => order_ret G w hw f_x0 f_x1  ) (by simp) (by have q1 := List.length_filter_le (fun a => !decide (a.dig = d)) t13.q; have q2 := hok.q4 _ _ hf12; simp; omega)) ?_; rintro v51 G o48 w hg50 hk hC hB ⟨rfl, hO49⟩
     replace hn6 := hn6.mono hg50; replace hM7 := hM7.mono hg50; replace hM24 := hM24.mono hg50; replace hM25 := hM25.mono hg50; replace hR23 := hR23.mono hg50
     replace hsil := hsil.mono hg50
     replace hF33 := hF33.mono hg50
     refine wlThen (wcSeq (wcRegion ?_))
     refine M_ rfl <| M_ rfl ?_
     obtain ⟨hC, hB⟩ := holdO (o := o48) (bl := []) (r := []) hC hB
     replace hC := hC.permH (List.perm_append_comm_assoc (ob o48) [(bs, Obj.cells [(Value.int .i64 s.crew.faults), (Value.slice A9 s.crew.nodes.length cap10), (Value.int .i64 s.low), (Value.map (some l2))].toArray 56 (0, 0)), (l2, om3), (r18.p, Obj.cells ((Value.int .i64 v) :: (d.cells ++ ((Value.int .i64 t13.prep.view) :: (t13.prep.dig.cells ++ ((Value.map (some r18.m1)) :: ((Value.map (some r18.m2)) :: ((Value.slice A44 (((((t13.q.filter (fun dz_ => !(fun f_x0 => decide (f_x0.dig = d)) dz_))) ++ [(Stand.mk k d v)])).length) cap45) :: []))))))).toArray 81 (0, 0)), (r18.m1, r18.o1), (r18.m2, r18.o2)] H19)
     replace hB := hB.permH (List.perm_append_comm_assoc (ob o48) [(bs, Obj.cells [(Value.int .i64 s.crew.faults), (Value.slice A9 s.crew.nodes.length cap10), (Value.int .i64 s.low), (Value.map (some l2))].toArray 56 (0, 0)), (l2, om3), (r18.p, Obj.cells ((Value.int .i64 v) :: (d.cells ++ ((Value.int .i64 t13.prep.view) :: (t13.prep.dig.cells ++ ((Value.map (some r18.m1)) :: ((Value.map (some r18.m2)) :: ((Value.slice A44 (((((t13.q.filter (fun dz_ => !(fun f_x0 => decide (f_x0.dig = d)) dz_))) ++ [(Stand.mk k d v)])).length) cap45) :: []))))))).toArray 81 (0, 0)), (r18.m1, r18.o1), (r18.m2, r18.o2)] H19)
     have hq52 : Ow G o48 44 (.slice A44 (((((t13.q.filter (fun dz_ => !(fun f_x0 => decide (f_x0.dig = d)) dz_))) ++ [(Stand.mk k d v)])).length) cap45) (((isortG (fun f_x0 f_x1 => (ordS f_x0 f_x1)) ((((t13.q.filter (fun dz_ => !(fun f_x0 => decide (f_x0.dig = d)) dz_))) ++ [(Stand.mk k d v)]))))) := by simpa using hO49
     have hl53 : (((isortG (fun f_x0 f_x1 => (ordS f_x0 f_x1)) ((((t13.q.filter (fun dz_ => !(fun f_x0 => decide (f_x0.dig = d)) dz_))) ++ [(Stand.mk k d v)]))))).length ≤ maxL := (by have q1 := List.length_filter_le (fun a => !decide (a.dig = d)) t13.q; have q2 := hok.q4 _ _ hf12; (try rw [isortG_len]); unfold maxL; simp; omega)
     refine wlCallW hC hB rfl co55 rfl rfl (look_ret _ _ hC.holds bs _ s k (SlotS.mk ((Wd.mk v d)) t13.prep t13.pre t13.com (((isortG (fun f_x0 f_x1 => (ordS f_x0 f_x1)) ((((t13.q.filter (fun dz_ => !(fun f_x0 => decide (f_x0.dig = d)) dz_))) ++ [(Stand.mk k d v)])))))) _ (fun x hx => ⟨(hC.held x hx).1, (hC.held x hx).2.1⟩) hC.hnd ⟨_, _, _, _, ⟨r18.p, r18.m1, r18.m2, ((.int .i64 v) :: (d.cells ++ ((.int .i64 t13.prep.view) :: (t13.prep.dig.cells ++ ((.map (some r18.m1)) :: ((.map (some r18.m2)) :: ((.slice A44 (((((t13.q.filter (fun dz_ => !(fun f_x0 => decide (f_x0.dig = d)) dz_))) ++ [(Stand.mk k d v)])).length) cap45) :: []))))))), r18.o1, r18.o2, (.slice A44 (((((t13.q.filter (fun dz_ => !(fun f_x0 => decide (f_x0.dig = d)) dz_))) ++ [(Stand.mk k d v)])).length) cap45), o48⟩, _, rfl, hn6, hM7, ⟨rfl, hM24, hM25, hq52, hl53⟩, rfl, hR23⟩  hsil) ?_; rintro v54 G O55 w hg hC hB ⟨hs56, rfl⟩
     replace hn6 := hn6.mono hg
     replace hsil := hsil.mono hg
     replace hF33 := hF33.mono hg
     obtain ⟨v57, l58, om59, D60, H61, rfl, hn62, hM63, hH64⟩ := hs56
     obtain ⟨A65, cap66, rfl⟩ := hn62.form
     refine wlThen (wcSeq (wcRegion ?_))
     refine A_ rfl <| wlThen <| wcRet ?_
     exact r1_ hQ rfl rfl (endT hC _ ⟨[], List.Perm.of_eq (List.append_nil _).symm⟩ ⟨(by have e_ : (propI s v k d).1 = ((SlS.mk s.crew s.low (upd s.f k (lookS s.crew (SlotS.mk ((Wd.mk v d)) t13.prep t13.pre t13.com (((isortG (fun f_x0 f_x1 => (ordS f_x0 f_x1)) ((((t13.q.filter (fun dz_ => !(fun f_x0 => decide (f_x0.dig = d)) dz_))) ++ [(Stand.mk k d v)])))))))))) := (by simp only [propI, propS, propQ, hf12, h28, h29, h41, ta_, zne]); rw [e_]; exact ⟨_, _, _, _, _, rfl, hn62, hM63, hH64⟩), (by simp only [propI, hf12, h28, h29, h41, ta_, zne])⟩)
    ·
     refine wcCondT rfl <| wcRegion <| M_ rfl ?_
     have hO67 : Ow G o37 44 (.slice (if cap36 = 1 then A35 else Option.map (fun a => a.add (1 * 34)) A35) (((((t13.q.filter (fun dz_ => !(fun f_x0 => decide (f_x0.dig = d)) dz_)))).length - 1)) ((cap36 - 1))) ((List.drop 1 (((t13.q.filter (fun dz_ => !(fun f_x0 => decide (f_x0.dig = d)) dz_)))))) := Ow.dropO hO38 (Nat.lt_of_lt_of_le (by decide : 1 < 4) (Int.ofNat_le.1 (of_decide_eq_true h41)))
     refine V_ (opSliceFrom (l := 1) slo38 rfl rfl (Nat.le_of_lt (Nat.lt_of_lt_of_le (by decide : 1 < 4) (Int.ofNat_le.1 (of_decide_eq_true h41))))) <| A_ rfl ?_
     refine wlThen (wcSeq (wcRegion ?_))
     refine M_ rfl <| M_ rfl <| M_ rfl <| V_ (opLoadRow (cs := d.cells) rfl (RowG.range hC.holds (hF33.part (i := 0) (m := 32) (by simp [cl_]))) row37 (by simp [cl_])) <| M_ rfl <| V_ (B_ (ps := [(0, .tmp 56), (1, .tmp 57), (2, .tmp 58)]) (cs := ((.int .i64 k) :: (d.cells ++ ((.int .i64 v) :: [])))) so44 zero44 rfl rfl) ?_
     refine wlBuildSlice (α := Stand) (ps := [(0, .tmp 59)]) (xs := [(Stand.mk k d v)]) (rows := [((.int .i64 k) :: (d.cells ++ ((.int .i64 v) :: [])))]) elo38 rfl rfl hC hB rfl rfl rfl ⟨rfl, trivial⟩ rfl ?_; intro b68 G w hk hC hB hs69
     replace hn6 := hn6.mono hk.gle; replace hM7 := hM7.mono hk.gle; replace hM24 := hM24.mono hk.gle; replace hM25 := hM25.mono hk.gle; replace hR23 := hR23.mono hk.gle; replace hO67 := hO67.mono hk.gle
     replace hsil := hsil.mono hk.gle
     refine wlAppend (α := Stand) (bl := []) (o := o37) (r := []) elo38 hC hB rfl rfl hO67 hs69 (by have q1 := List.length_filter_le (fun a => !decide (a.dig = d)) t13.q; have q2 := hok.q4 _ _ hf12; simp; omega) rfl rfl ?_; intro A70 cap71 o72 w hC hB hO73
     refine V_ (opNilCheck rfl) <| V_ (opFieldAddr rfl fo81_4) ?_
     obtain ⟨hC, hB⟩ := unhold hC hB (i := 2) rfl
     refine wlStore 0 (vs := [(.slice A70 ((((List.drop 1 (((t13.q.filter (fun dz_ => !(fun f_x0 => decide (f_x0.dig = d)) dz_))))) ++ [(Stand.mk k d v)])).length) cap71)]) (cs := ((.int .i64 v) :: (d.cells ++ ((.int .i64 t13.prep.view) :: (t13.prep.dig.cells ++ ((.map (some r18.m1)) :: ((.map (some r18.m2)) :: ((.slice A30 t13.q.length cap31) :: [])))))))) (cs' := ((.int .i64 v) :: (d.cells ++ ((.int .i64 t13.prep.view) :: (t13.prep.dig.cells ++ ((.map (some r18.m1)) :: ((.map (some r18.m2)) :: ((.slice A70 ((((List.drop 1 (((t13.q.filter (fun dz_ => !(fun f_x0 => decide (f_x0.dig = d)) dz_))))) ++ [(Stand.mk k d v)])).length) cap71) :: [])))))))) hC hB rfl rfl rfl sz38 rfl rfl rfl (by simp [cl_]) (by simp [cl_]) rfl ?_; intro w hC hB
     obtain ⟨hC, hB⟩ := hold hC hB (i := 0) rfl
     replace hC := hC.permH (List.perm_middle (l₁ := [(bs, Obj.cells [(.int .i64 s.crew.faults), (.slice A9 s.crew.nodes.length cap10), (.int .i64 s.low), (.map (some l2))].toArray 56 (0, 0)), (l2, om3)]) (l₂ := ((r18.m1, r18.o1) :: (r18.m2, r18.o2) :: H19))).symm
     replace hB := hB.permH (List.perm_middle (l₁ := [(bs, Obj.cells [(.int .i64 s.crew.faults), (.slice A9 s.crew.nodes.length cap10), (.int .i64 s.low), (.map (some l2))].toArray 56 (0, 0)), (l2, om3)]) (l₂ := ((r18.m1, r18.o1) :: (r18.m2, r18.o2) :: H19))).symm
     refine wlThen (wcSeq (wcRegion ?_))
     refine M_ rfl <| V_ (opNilCheck rfl) <| V_ (opFieldAddr rfl fo81_4) <| V_ (opLoadOne (v := (.slice A70 ((((List.drop 1 (((t13.q.filter (fun dz_ => !(fun f_x0 => decide (f_x0.dig = d)) dz_))))) ++ [(Stand.mk k d v)])).length) cap71)) rfl (hC.hcell 2 rfl (o := 68) (by simp [cl_])) one38) ?_
     refine wlCallP (bl := []) (o := o72) (r := []) hC hB rfl co53 rfl rfl (sort_ret _ _ hC.holds _ (((List.drop 1 (((t13.q.filter (fun dz_ => !(fun f_x0 => decide (f_x0.dig = d)) dz_))))) ++ [(Stand.mk k d v)])) _ hO73 (Bxs.mine (bl := []) (r := []) hB) 54 [] (fun f_x0 f_x1 => (ordS f_x0 f_x1)) co54 (fun G w f_x0 f_x1 hg hw  => order_ret G w hw f_x0 f_x1  ) (by simp) (by have q1 := List.length_filter_le (fun a => !decide (a.dig = d)) t13.q; have q2 := hok.q4 _ _ hf12; simp; omega)) ?_; rintro v77 G o74 w hg76 hk hC hB ⟨rfl, hO75⟩
     replace hn6 := hn6.mono hg76; replace hM7 := hM7.mono hg76; replace hM24 := hM24.mono hg76; replace hM25 := hM25.mono hg76; replace hR23 := hR23.mono hg76
     replace hsil := hsil.mono hg76
     refine wlThen (wcSeq (wcRegion ?_))
     refine M_ rfl <| M_ rfl ?_
     obtain ⟨hC, hB⟩ := holdO (o := o74) (bl := []) (r := []) hC hB
     replace hC := hC.permH (List.perm_append_comm_assoc (ob o74) [(bs, Obj.cells [(Value.int .i64 s.crew.faults), (Value.slice A9 s.crew.nodes.length cap10), (Value.int .i64 s.low), (Value.map (some l2))].toArray 56 (0, 0)), (l2, om3), (r18.p, Obj.cells ((Value.int .i64 v) :: (d.cells ++ ((Value.int .i64 t13.prep.view) :: (t13.prep.dig.cells ++ ((Value.map (some r18.m1)) :: ((Value.map (some r18.m2)) :: ((Value.slice A70 ((((List.drop 1 (((t13.q.filter (fun dz_ => !(fun f_x0 => decide (f_x0.dig = d)) dz_))))) ++ [(Stand.mk k d v)])).length) cap71) :: []))))))).toArray 81 (0, 0)), (r18.m1, r18.o1), (r18.m2, r18.o2)] H19)
     replace hB := hB.permH (List.perm_append_comm_assoc (ob o74) [(bs, Obj.cells [(Value.int .i64 s.crew.faults), (Value.slice A9 s.crew.nodes.length cap10), (Value.int .i64 s.low), (Value.map (some l2))].toArray 56 (0, 0)), (l2, om3), (r18.p, Obj.cells ((Value.int .i64 v) :: (d.cells ++ ((Value.int .i64 t13.prep.view) :: (t13.prep.dig.cells ++ ((Value.map (some r18.m1)) :: ((Value.map (some r18.m2)) :: ((Value.slice A70 ((((List.drop 1 (((t13.q.filter (fun dz_ => !(fun f_x0 => decide (f_x0.dig = d)) dz_))))) ++ [(Stand.mk k d v)])).length) cap71) :: []))))))).toArray 81 (0, 0)), (r18.m1, r18.o1), (r18.m2, r18.o2)] H19)
     have hq78 : Ow G o74 44 (.slice A70 ((((List.drop 1 (((t13.q.filter (fun dz_ => !(fun f_x0 => decide (f_x0.dig = d)) dz_))))) ++ [(Stand.mk k d v)])).length) cap71) (((isortG (fun f_x0 f_x1 => (ordS f_x0 f_x1)) (((List.drop 1 (((t13.q.filter (fun dz_ => !(fun f_x0 => decide (f_x0.dig = d)) dz_))))) ++ [(Stand.mk k d v)]))))) := by simpa using hO75
     have hl79 : (((isortG (fun f_x0 f_x1 => (ordS f_x0 f_x1)) (((List.drop 1 (((t13.q.filter (fun dz_ => !(fun f_x0 => decide (f_x0.dig = d)) dz_))))) ++ [(Stand.mk k d v)]))))).length ≤ maxL := (by have q1 := List.length_filter_le (fun a => !decide (a.dig = d)) t13.q; have q2 := hok.q4 _ _ hf12; (try rw [isortG_len]); unfold maxL; simp; omega)
     refine wlCallW hC hB rfl co55 rfl rfl (look_ret _ _ hC.holds bs _ s k (SlotS.mk ((Wd.mk v d)) t13.prep t13.pre t13.com (((isortG (fun f_x0 f_x1 => (ordS f_x0 f_x1)) (((List.drop 1 (((t13.q.filter (fun dz_ => !(fun f_x0 => decide (f_x0.dig = d)) dz_))))) ++ [(Stand.mk k d v)])))))) _ (fun x hx => ⟨(hC.held x hx).1, (hC.held x hx).2.1⟩) hC.hnd ⟨_, _, _, _, ⟨r18.p, r18.m1, r18.m2, ((.int .i64 v) :: (d.cells ++ ((.int .i64 t13.prep.view) :: (t13.prep.dig.cells ++ ((.map (some r18.m1)) :: ((.map (some r18.m2)) :: ((.slice A70 ((((List.drop 1 (((t13.q.filter (fun dz_ => !(fun f_x0 => decide (f_x0.dig = d)) dz_))))) ++ [(Stand.mk k d v)])).length) cap71) :: []))))))), r18.o1, r18.o2, (.slice A70 ((((List.drop 1 (((t13.q.filter (fun dz_ => !(fun f_x0 => decide (f_x0.dig = d)) dz_))))) ++ [(Stand.mk k d v)])).length) cap71), o74⟩, _, rfl, hn6, hM7, ⟨rfl, hM24, hM25, hq78, hl79⟩, rfl, hR23⟩  hsil) ?_; rintro v80 G O81 w hg hC hB ⟨hs82, rfl⟩
     replace hn6 := hn6.mono hg
     obtain ⟨v83, l84, om85, D86, H87, rfl, hn88, hM89, hH90⟩ := hs82
     obtain ⟨A91, cap92, rfl⟩ := hn88.form
     refine wlThen (wcSeq (wcRegion ?_))
     refine A_ rfl <| wlThen <| wcRet ?_
     exact r1_ hQ rfl rfl (endT hC _ ⟨[], List.Perm.of_eq (List.append_nil _).symm⟩ ⟨(by have e_ : (propI s v k d).1 = ((SlS.mk s.crew s.low (upd s.f k (lookS s.crew (SlotS.mk ((Wd.mk v d)) t13.prep t13.pre t13.com (((isortG (fun f_x0 f_x1 => (ordS f_x0 f_x1)) (((List.drop 1 (((t13.q.filter (fun dz_ => !(fun f_x0 => decide (f_x0.dig = d)) dz_))))) ++ [(Stand.mk k d v)])))))))))) := (by simp only [propI, propS, propQ, hf12, h28, h29, h41, ta_, zne]); rw [e_]; exact ⟨_, _, _, _, _, rfl, hn88, hM89, hH90⟩), (by simp only [propI, hf12, h28, h29, h41, ta_, zne])⟩)
   ·
    refine wcCondT rfl <| wcSeq <| wcRegion <| M_ rfl <| A_ rfl <| wlThen <| wcRet ?_
    exact r1_ hQ rfl rfl (endT hC _ ⟨[], List.Perm.of_eq (List.append_nil _).symm⟩ ⟨(by have e_ : (propI s v k d).1 = (SlS.mk s.crew s.low (upd s.f k t13)) := (by rw [show (SlS.mk s.crew s.low (upd s.f k t13)) = s from slS_self hf12]; simp only [propI, propS, propQ, hf12, h28, h29, ta_, zne]); rw [e_]; exact ⟨_, _, _, _, _, rfl, hn6, hM7, (hR23 _ ⟨r18.p, r18.m1, r18.m2, ((Value.int .i64 t13.last.view) :: (t13.last.dig.cells ++ ((Value.int .i64 t13.prep.view) :: (t13.prep.dig.cells ++ ((Value.map (some r18.m1)) :: ((Value.map (some r18.m2)) :: (r18.vq :: []))))))), r18.o1, r18.o2, r18.vq, r18.oq⟩ t13 (fun _ _ h => h) rfl ⟨rfl, hM24, hM25, hq26, hS21.ql⟩)⟩), (by simp only [propI, hf12, h28, h29, ta_, zne])⟩)

theorem fill_ret (G0 : Gh) (w0 : World) (hw : Holds G0 w0) (bs : Nat) (Os : List (Nat × Obj)) (s : SlS) (hOs : ∀ x ∈ Os, w0.heap[x.1]? = some x.2 ∧ G0 x.1 = none) (hds : (Os.map (·.1)).Nodup) (hs : SlO G0 bs Os s) (hsil : RowG G0 0 0 silence.cells) (hlow : 0 ≤ s.low ∧ s.low ≤ 9007199254740983) :
  RetT Tryz.prog 27 #[.pointer (some ⟨bs, 0, none⟩)] G0 w0 (List.map (·.1) Os) (fun G O v => SlO G bs O (SlS.mk s.crew s.low (fillN s.f (s.low + 1) 8)) ∧ v = .tuple #[]) := by
 have hC := Cx.refl hw
 have hB : Bxs G0 w0 w0.heap.size [] := Bxs.nil _ _ _
 obtain ⟨v1, l2, om3, D4, H5, rfl, hn6, hM7, hH8⟩ := hs
 obtain ⟨A9, cap10, rfl⟩ := hn6.form
 have hC := Cx.reflH ((bs, .cells [(.int .i64 s.crew.faults), (.slice A9 s.crew.nodes.length cap10), (.int .i64 s.low), (.map (some l2))].toArray 56 (0, 0)) :: (l2, om3) :: H5) (List.map (·.1) ((bs, .cells [(.int .i64 s.crew.faults), (.slice A9 s.crew.nodes.length cap10), (.int .i64 s.low), (.map (some l2))].toArray 56 (0, 0)) :: (l2, om3) :: H5)) hw (fun x hx => ⟨(hOs x hx).1, (hOs x hx).2, List.mem_map.2 ⟨x, hx, rfl⟩⟩) hds
 have hB : Bxs G0 w0 w0.heap.size [] ⟨(List.map (·.1) ((bs, .cells [(.int .i64 s.crew.faults), (.slice A9 s.crew.nodes.length cap10), (.int .i64 s.low), (.map (some l2))].toArray 56 (0, 0)) :: (l2, om3) :: H5)), ((bs, .cells [(.int .i64 s.crew.faults), (.slice A9 s.crew.nodes.length cap10), (.int .i64 s.low), (.map (some l2))].toArray 56 (0, 0)) :: (l2, om3) :: H5)⟩ := Bxs.nil _ _ _
 refine callsOfN Tryz.func27 rfl _ Tryz.ntmps27 rfl _ (argsCons argsNil (t := 0) rfl) ?_; intro Q0 hQ hN
 refine wcSeq <| wcRegion <| M_ rfl <| V_ (opNilCheck rfl) <| V_ (opFieldAddr rfl fo56_1) <| V_ (opLoadOne (v := (.int .i64 s.low)) rfl (hC.hcell 0 rfl (o := 2) rfl) one3) <| V_ (opAdd rfl rfl) <| A_ rfl <| wlThen <| wcBlock ?_
 refine WC.sub (wrInd (ι := Int × Nat × (List (Nat × Obj)) × (Int → Option SlotS)) (fun i => match i with | (k, i, Oq, Fq) => 8 - i) (fun i G w => match i with | (k, i, Oq, Fq) => Cx w0 G0 G w ⟨(List.map (·.1) ((bs, .cells [(.int .i64 s.crew.faults), (.slice A9 s.crew.nodes.length cap10), (.int .i64 s.low), (.map (some l2))].toArray 56 (0, 0)) :: (l2, om3) :: H5)), (Oq)⟩ ∧ Bxs G w w0.heap.size [] ⟨(List.map (·.1) ((bs, .cells [(.int .i64 s.crew.faults), (.slice A9 s.crew.nodes.length cap10), (.int .i64 s.low), (.map (some l2))].toArray 56 (0, 0)) :: (l2, om3) :: H5)), (Oq)⟩ ∧ Sl G (.slice A9 s.crew.nodes.length cap10) s.crew.nodes ∧ RowG G 0 0 silence.cells ∧ SlO G bs Oq (SlS.mk s.crew s.low Fq) ∧ i ≤ 8 ∧ k = s.low + 1 + i ∧ Fq = fillN s.f (s.low + 1) i) (fun i => match i with | (k, i, Oq, Fq) => ((Env.nil.put 0 (.pointer (some ⟨bs, 0, none⟩))).put 2 (.int .i64 k))) ?_ (IntKind.wrap .i64 (s.low + 1), 0, ((bs, .cells [(.int .i64 s.crew.faults), (.slice A9 s.crew.nodes.length cap10), (.int .i64 s.low), (.map (some l2))].toArray 56 (0, 0)) :: (l2, om3) :: H5), s.f) _ _ ⟨hC, hB, hn6, hsil, ⟨_, _, _, _, _, rfl, hn6, hM7, hH8⟩, (Nat.zero_le _), (lowk0 hlow), rfl⟩) (fun _ ha => ((ha.start.c ha 0 rfl).c ha 2 rfl))
 rintro ⟨k, i, Oq, Fq⟩ G w N0 IH0 ⟨hC, hB, hn6, hsil, hWOq, hi, hkk, hFq⟩
 obtain ⟨v11, l12, om13, D14, H15, rfl, hn16, hM17, hH18⟩ := hWOq
 obtain ⟨A19, cap20, rfl⟩ := hn16.form
 refine wcSeq (wcSeq (wcRegion ?_))
 refine M_ rfl <| M_ rfl <| V_ (opNilCheck rfl) <| V_ (opFieldAddr rfl fo56_1) <| V_ (opLoadOne (v := (.int .i64 s.low)) rfl (hC.hcell 0 rfl (o := 2) rfl) one3) <| V_ (opAdd rfl rfl) <| V_ (opLeq rfl rfl) <| wlThen ?_
 cases h21 : decide (k ≤ IntKind.wrap .i64 (s.low + 8))
 ·
  refine wcCondF rfl <| wcExit ?_
  exact fun ac_ ha => hN _ _ _ (results0 ha rfl) ha.df (endT hC _ ⟨[], List.Perm.of_eq (List.append_nil _).symm⟩ ⟨(by have e_ : (SlS.mk s.crew s.low (fillN s.f (s.low + 1) 8)) = (SlS.mk s.crew s.low Fq) := (by rw [fill_end hlow hi hkk hFq h21]); rw [e_]; exact ⟨_, _, _, _, _, rfl, hn16, hM17, hH18⟩), rfl⟩)
 ·
  refine wcCondT rfl <| wcSkip <| wcOf <| wcSeq ?_
  refine wcBlock (wcSeq (wcRegion ?_))
  refine M_ rfl <| V_ (opNilCheck rfl) <| V_ (opFieldAddr rfl fo56_2) <| V_ (opLoadOne (v := (.map (some l12))) rfl (hC.hcell 0 rfl (o := 3) rfl) one54) <| M_ rfl ?_
  obtain ⟨v24, hv25, hr26⟩ := hM17.lookup (keyL_int ui3) mk54 zv75 (isPt' _ (Pt.mk none)) k
  rcases hf22 : Fq k with _ | t23
  ·
   rw [hH18.at_none hf22] at hv25
   replace hv25 : v24 = .pointer none := hv25
   subst hv25
   refine V_ (opLookupH rfl rfl (hr26 _ _ (hC.heldAt 1 rfl))) <| V_ (OpVal.cast (v' := .bool true) (opPtrNil ip75 rfl rfl) rfl) <| wlThen <| wcCondT rfl ?_
   refine wcDrawS 7 [0, 1, 3, 7, 0, 0, 63] fmix (by kernel_rfl) (by kernel_rfl) rfl hC hB ?_; intro w hC hB
   refine D_ 0 rfl rfl (fun _ => opMove rfl) <| D_ 1 rfl rfl (fun _ => opNilCheck rfl) <| D_ 2 rfl rfl (fun _ => (opFieldAddr rfl fo56_2)) <| E_ 3 rfl rfl (opLoadOne (v := (.map (some l12))) rfl (hC.hcell 0 rfl (o := 3) rfl) one54) <| D_ 4 rfl rfl (fun _ => opMove rfl) ?_
   refine wdAll [5] (by kernel_rfl) rfl ⟨wd1 rfl ?_, trivial⟩
   intro hGd
   refine wlCallT (A := [(bs, Obj.cells [(Value.int .i64 s.crew.faults), (Value.slice A19 s.crew.nodes.length cap20), (Value.int .i64 s.low), (Value.map (some l12))].toArray 56 (0, 0)), (l12, om13)]) (O := []) (B := H15) hC hB rfl co65 rfl rfl (newSlot_ret _ _ hC.holds hsil) ?_; rintro v27 G _ w hg hC hB ⟨r28, rfl, rfl, hr29⟩
   replace hn6 := hn6.mono hg; replace hn16 := hn16.mono hg; replace hM17 := hM17.mono hg; replace hH18 := hH18.mono hg
   replace hsil := hsil.mono hg
   refine wdNext hGd rfl (kpKeep rfl kpNil) (Tk.cons (p := (_, fun w => OpVal _ _ _ w _ _)) (opLoadOne (v := (.map (some l12))) rfl (hC.hcell 0 rfl (o := 3) rfl) one54) (Tk.nil _)) ?_
   refine wdAll [6] (by kernel_rfl) rfl ⟨wd1 rfl ?_, trivial⟩
   intro hGd
   obtain ⟨q30, hM31, hr32, hit33⟩ := hM17.put (keyL_int ui3) mk54 (isPt' _ (Pt.mk (some r28.p))) k
   refine wlMapPutH hC hB (i := 1) rfl rfl rfl rfl (hr32 _ _ (hC.heldAt 1 rfl)) rfl ?_; intro w hC hB
   have hH34 := hH18.add hf22 hr29
   refine wdNext hGd rfl (kpDrop rfl kpNil) (Tk.nil _) ?_
   refine wdDone (by kernel_rfl) <| wcOf <| wcRegion <| M_ rfl <| V_ (opAdd rfl rfl) <| A_ rfl <| wlRound ?_
   exact (IH0 (IntKind.wrap .i64 (k + 1), (i + 1), ((bs, Obj.cells [(Value.int .i64 s.crew.faults), (Value.slice A19 s.crew.nodes.length cap20), (Value.int .i64 s.low), (Value.map (some l12))].toArray 56 (0, 0)) :: (l12, q30) :: (r28.blocks ++ H15)), (upd Fq k newS)) _ _ ⟨hC, hB, hn6, hsil, ⟨_, _, _, _, _, rfl, hn16, hM31, hH34⟩, (lowk_lt hlow hkk h21), (lowk_step hlow hkk h21), (fill_new hFq hkk hf22)⟩ (by have := lowk_lt hlow hkk h21; show 8 - (i + 1) < 8 - i; omega)).sub (fun _ ha => ((ha.start.c ha 0 rfl).c ha 2 rfl))
  ·
   obtain ⟨r35, H36, hD37, hS38, hp39, hR40⟩ := hH18.at_some hf22
   rw [hD37] at hv25
   replace hv25 : v24 = .pointer (some ⟨r35.p, 0, none⟩) := hv25
   subst hv25
   refine V_ (opLookupH rfl rfl (hr26 _ _ (hC.heldAt 1 rfl))) ?_
   have hM41 := hS38.pre
   have hM42 := hS38.com
   have hq43 := hS38.q
   have hc44 : r35.c = ((.int .i64 t23.last.view) :: (t23.last.dig.cells ++ ((.int .i64 t23.prep.view) :: (t23.prep.dig.cells ++ ((.map (some r35.m1)) :: ((.map (some r35.m2)) :: (r35.vq :: []))))))) := hS38.c
   replace hC : Cx w0 G0 G w ⟨(List.map (·.1) ((bs, .cells [(.int .i64 s.crew.faults), (.slice A9 s.crew.nodes.length cap10), (.int .i64 s.low), (.map (some l2))].toArray 56 (0, 0)) :: (l2, om3) :: H5)), ((bs, .cells [(.int .i64 s.crew.faults), (.slice A19 s.crew.nodes.length cap20), (.int .i64 s.low), (.map (some l12))].toArray 56 (0, 0)) :: (l12, om13) :: (r35.p, .cells ((.int .i64 t23.last.view) :: (t23.last.dig.cells ++ ((.int .i64 t23.prep.view) :: (t23.prep.dig.cells ++ ((.map (some r35.m1)) :: ((.map (some r35.m2)) :: (r35.vq :: []))))))).toArray 81 (0, 0)) :: (r35.m1, r35.o1) :: (r35.m2, r35.o2) :: (ob r35.oq ++ H36))⟩ := by rw [← hc44]; exact hC.permH ((hp39.cons _).cons _)
   replace hB : Bxs G w w0.heap.size [] ⟨(List.map (·.1) ((bs, .cells [(.int .i64 s.crew.faults), (.slice A9 s.crew.nodes.length cap10), (.int .i64 s.low), (.map (some l2))].toArray 56 (0, 0)) :: (l2, om3) :: H5)), ((bs, .cells [(.int .i64 s.crew.faults), (.slice A19 s.crew.nodes.length cap20), (.int .i64 s.low), (.map (some l12))].toArray 56 (0, 0)) :: (l12, om13) :: (r35.p, .cells ((.int .i64 t23.last.view) :: (t23.last.dig.cells ++ ((.int .i64 t23.prep.view) :: (t23.prep.dig.cells ++ ((.map (some r35.m1)) :: ((.map (some r35.m2)) :: (r35.vq :: []))))))).toArray 81 (0, 0)) :: (r35.m1, r35.o1) :: (r35.m2, r35.o2) :: (ob r35.oq ++ H36))⟩ := by rw [← hc44]; exact hB.permH ((hp39.cons _).cons _)
   refine V_ (OpVal.cast (v' := .bool false) (opPtrNil ip75 rfl rfl) rfl) <| wlThen <| wcCondF rfl <| wcSkip <| wcOf <| wcRegion <| M_ rfl <| V_ (opAdd rfl rfl) <| A_ rfl <| wlRound ?_
   exact (IH0 (IntKind.wrap .i64 (k + 1), (i + 1), ((bs, Obj.cells [(Value.int .i64 s.crew.faults), (Value.slice A19 s.crew.nodes.length cap20), (Value.int .i64 s.low), (Value.map (some l12))].toArray 56 (0, 0)) :: (l12, om13) :: (r35.p, Obj.cells ((Value.int .i64 t23.last.view) :: (t23.last.dig.cells ++ ((Value.int .i64 t23.prep.view) :: (t23.prep.dig.cells ++ ((Value.map (some r35.m1)) :: ((Value.map (some r35.m2)) :: (r35.vq :: []))))))).toArray 81 (0, 0)) :: (r35.m1, r35.o1) :: (r35.m2, r35.o2) :: (ob r35.oq ++ H36)), (upd Fq k t23)) _ _ ⟨hC, hB, hn6, hsil, ⟨_, _, _, _, _, rfl, hn16, hM17, (hR40 _ ⟨r35.p, r35.m1, r35.m2, ((Value.int .i64 t23.last.view) :: (t23.last.dig.cells ++ ((Value.int .i64 t23.prep.view) :: (t23.prep.dig.cells ++ ((Value.map (some r35.m1)) :: ((Value.map (some r35.m2)) :: (r35.vq :: []))))))), r35.o1, r35.o2, r35.vq, r35.oq⟩ t23 (fun _ _ h => h) rfl ⟨rfl, hM41, hM42, hq43, hS38.ql⟩)⟩, (lowk_lt hlow hkk h21), (lowk_step hlow hkk h21), (fill_old hFq hkk hf22)⟩ (by have := lowk_lt hlow hkk h21; show 8 - (i + 1) < 8 - i; omega)).sub (fun _ ha => ((ha.start.c ha 0 rfl).c ha 2 rfl))

theorem new_ok (G0 : Gh) (w0 : World) (hw : Holds G0 w0) (csc : List Value) (c : Crew) (hc : Rp.Is G0 csc c) (self : Int) (low : Int) (hsil : RowG G0 0 0 silence.cells) (hok : newOk c self low = true) :
  RetT Tryz.prog 5 #[.agg csc.toArray, .int .i64 self, .int .i64 low] G0 w0 [] (fun G L v => ∃ b, v = .tuple #[.pointer (some ⟨b, 0, none⟩), .int .i64 0] ∧ SlO G b L (newSl c low)) := by
 have hC := Cx.refl hw
 have hB : Bxs G0 w0 w0.heap.size [] := Bxs.nil _ _ _
 obtain ⟨v1, rfl, hs2⟩ := Crew.opIs hc
 obtain ⟨A3, cap4, rfl⟩ := hs2.form
 refine callsOf Tryz.func5 rfl _ Tryz.ntmps5 rfl _ (argsCons (argsCons (argsCons argsNil (t := 0) rfl) (t := 1) rfl) (t := 2) rfl) ?_; intro Q0 hQ
 refine wcSeq <| wcRegion ?_
 refine wlBox (cs := [(.int .i64 c.faults), (.slice A3 c.nodes.length cap4)]) hC hB rfl rfl rfl ?_; intro b5 w hk hC hB
 refine A_ rfl <| A_ rfl <| wlThen <| wcSeq ?_
 refine wcBlock (wcSeq (wcRegion ?_))
 refine V_ (opLoadRow (cs := [(.int .i64 c.faults), (.slice A3 c.nodes.length cap4)]) rfl (hB.range (i := 0) (m := 2) rfl rfl) row24 rfl) ?_
 refine wlCallS hC hB rfl co23 rfl rfl (check_ret _ _ hC.holds _ c (Crew.mkIs (x := c) hs2)) ?_; intro w hk hC hB
 refine V_ (opNeq rfl rfl) <| M_ rfl ?_
 cases h6 : ((check c)) != 0
 ·
  refine wlOn rfl rfl <| V_ (opLoadRow (cs := [(.int .i64 c.faults), (.slice A3 c.nodes.length cap4)]) rfl (hB.range (i := 0) (m := 2) rfl rfl) row24 rfl) <| wlOn rfl rfl <| M_ rfl <| wlOn rfl rfl ?_
  refine wlCallS hC hB rfl co24 rfl rfl (has_ret _ _ hC.holds _ c (Crew.mkIs (x := c) hs2) self) ?_; intro w hk hC hB
  refine wlOn rfl rfl <| V_ (opNot rfl) <| V_ (opPickF rfl rfl) <| A_ rfl <| wlThen ?_
  cases h7 : (has c self)
  ·
   exact (absurd h7 (by rw [newOk_2 hok]; decide) : False).elim
  ·
   refine wcCondF rfl <| wcSeq <| wcRegion <| M_ rfl ?_
   refine wlCallS hC hB rfl co25 rfl rfl (lowMay_ret _ _ hC.holds low) ?_; intro w hk hC hB
   refine V_ (opNot rfl) <| A_ rfl <| wlThen ?_
   cases h8 : (lowB low)
   ·
    exact (absurd h8 (by rw [newOk_3 hok]; decide) : False).elim
   ·
    refine wcCondF rfl <| wcSkip <| wcOf <| wcSeq <| wcRegion <| V_ (opFieldAddr rfl fo24_1) <| V_ (opLoadOne (v := (.slice A3 c.nodes.length cap4)) rfl (hB.cell (i := 0) rfl rfl) one22) ?_
    refine wlCallO (bl := [(b5, 24, [(.int .i64 c.faults), (.slice A3 c.nodes.length cap4)])]) (r := []) hC hB rfl co26 rfl rfl (cloneI_ret _ _ hC.holds _ c.nodes hs2 (new_l6 (newOk_1 hok))) ?_; rintro v13 G o11 w hk hC hB ⟨A9, cap10, rfl, hO12⟩
    replace hsil := hsil.mono hk.gle
    refine V_ (opFieldAddr rfl fo24_1) ?_
    obtain ⟨G, hg15, hC, hB, hs14⟩ := Ow.freeze' (bl := [(b5, 24, [(.int .i64 c.faults), (.slice A3 c.nodes.length cap4)])]) (r := []) hO12 hC (Nat.le_refl _) hB (new_le (newOk_1 hok))
    replace hsil := hsil.mono hg15
    refine wlStore 0 (vs := [(.slice A9 c.nodes.length cap10)]) (cs := [(.int .i64 c.faults), (.slice A3 c.nodes.length cap4)]) (cs' := [(.int .i64 c.faults), (.slice A9 c.nodes.length cap10)]) hC hB rfl rfl rfl sz22 rfl rfl rfl (by simp [cl_]) rfl rfl ?_; intro w hC hB
    refine wlThen (wcSeq (wcRegion ?_))
    refine V_ (opLoadRow (cs := [(.int .i64 c.faults), (.slice A9 c.nodes.length cap10)]) rfl (hB.range (i := 0) (m := 2) rfl rfl) row24 rfl) <| M_ rfl ?_
    refine wlMakeMapH hC hB rfl ?_; intro b16 w hC hB
    have hM17 : MpO kI G (.map #[] 0) ([] : List (Int × Pt)) := MpO.nil_ _ _
    refine V_ (B_ (ps := [(0, .tmp 27), (1, .tmp 28), (2, .tmp 29)]) (cs := [(.int .i64 c.faults), (.slice A9 c.nodes.length cap10), (.int .i64 low), (.map (some b16))]) so56 zero56 rfl rfl) ?_
    refine wlBox (cs := [(.int .i64 c.faults), (.slice A9 c.nodes.length cap10), (.int .i64 low), (.map (some b16))]) hC hB rfl rfl rfl ?_; intro b18 w hk hC hB
    obtain ⟨hC, hB⟩ := hold hC hB (i := 0) rfl
    have hH19 : SlH G [] [] (fun _ => none) := SlH.nil_ _
    refine A_ rfl ?_
    refine wlThen (wcSeq (wcRegion ?_))
    refine M_ rfl ?_
    refine wlCallW hC hB rfl co27 rfl rfl (fill_ret _ _ hC.holds b18 _ ((SlS.mk c low (fun _ => none))) (fun x hx => ⟨(hC.held x hx).1, (hC.held x hx).2.1⟩) hC.hnd ⟨_, _, _, _, _, rfl, hs14, hM17, hH19⟩ hsil (lowB_of (newOk_3 hok))) ?_; rintro v20 G O21 w hg hC hB ⟨hs22, rfl⟩
    obtain ⟨v23, l24, om25, D26, H27, rfl, hn28, hM29, hH30⟩ := hs22
    obtain ⟨A31, cap32, rfl⟩ := hn28.form
    refine wlThen (wcSeq (wcRegion ?_))
    refine M_ rfl <| A_ rfl <| A_ rfl <| wlThen <| wcRet ?_
    exact r2_ hQ rfl rfl rfl (endT hC _ ⟨[], List.Perm.of_eq (List.append_nil _).symm⟩ ⟨b18, rfl, (by have e_ : newSl c low = ((SlS.mk ((SlS.mk c low (fun _ => none))).crew ((SlS.mk c low (fun _ => none))).low (fillN ((SlS.mk c low (fun _ => none))).f (((SlS.mk c low (fun _ => none))).low + 1) 8))) := rfl; rw [e_]; exact ⟨_, _, _, _, _, rfl, hn28, hM29, hH30⟩)⟩)
 ·
  exact (absurd h6 (by rw [newOk_1 hok]; decide) : False).elim

theorem raise_ret (G0 : Gh) (w0 : World) (hw : Holds G0 w0) (bs : Nat) (Os : List (Nat × Obj)) (s : SlS) (hOs : ∀ x ∈ Os, w0.heap[x.1]? = some x.2 ∧ G0 x.1 = none) (hds : (Os.map (·.1)).Nodup) (hs : SlO G0 bs Os s) (low : Int) (hsil : RowG G0 0 0 silence.cells) (hok : SlOk s) :
  RetT Tryz.prog 12 #[.pointer (some ⟨bs, 0, none⟩), .int .i64 low] G0 w0 (List.map (·.1) Os) (fun G O v_ => SlO G bs O (raiseI s low).1 ∧ v_ = .int .i64 (raiseI s low).2) := by
 have hC := Cx.refl hw
 have hB : Bxs G0 w0 w0.heap.size [] := Bxs.nil _ _ _
 obtain ⟨v1, l2, om3, D4, H5, rfl, hn6, hM7, hH8⟩ := hs
 obtain ⟨A9, cap10, rfl⟩ := hn6.form
 have hC := Cx.reflH ((bs, .cells [(.int .i64 s.crew.faults), (.slice A9 s.crew.nodes.length cap10), (.int .i64 s.low), (.map (some l2))].toArray 56 (0, 0)) :: (l2, om3) :: H5) (List.map (·.1) ((bs, .cells [(.int .i64 s.crew.faults), (.slice A9 s.crew.nodes.length cap10), (.int .i64 s.low), (.map (some l2))].toArray 56 (0, 0)) :: (l2, om3) :: H5)) hw (fun x hx => ⟨(hOs x hx).1, (hOs x hx).2, List.mem_map.2 ⟨x, hx, rfl⟩⟩) hds
 have hB : Bxs G0 w0 w0.heap.size [] ⟨(List.map (·.1) ((bs, .cells [(.int .i64 s.crew.faults), (.slice A9 s.crew.nodes.length cap10), (.int .i64 s.low), (.map (some l2))].toArray 56 (0, 0)) :: (l2, om3) :: H5)), ((bs, .cells [(.int .i64 s.crew.faults), (.slice A9 s.crew.nodes.length cap10), (.int .i64 s.low), (.map (some l2))].toArray 56 (0, 0)) :: (l2, om3) :: H5)⟩ := Bxs.nil _ _ _
 refine callsOf Tryz.func12 rfl _ Tryz.ntmps12 rfl _ (argsCons (argsCons argsNil (t := 0) rfl) (t := 1) rfl) ?_; intro Q0 hQ
 refine wcSeq <| wcRegion <| A_ rfl <| wlThen <| wcSeq ?_
 refine wcBlock (wcSeq (wcRegion ?_))
 refine M_ rfl ?_
 refine wlCallS hC hB rfl co48 rfl rfl (RetS.lend hC (fun G_ hg_ hh_ hL_ => none_ret _ _ hh_ bs l2 _ s (hL_ (bs, .cells [(.int .i64 s.crew.faults), (.slice A9 s.crew.nodes.length cap10), (.int .i64 s.low), (.map (some l2))].toArray 56 (0, 0)) (by simp)) (hn6.mono hg_))) ?_; intro w hk hC hB
 refine A_ rfl <| wlThen <| wcCondF rfl <| wcSeq <| wcRegion <| M_ rfl <| M_ rfl <| V_ (opNilCheck rfl) <| V_ (opFieldAddr rfl fo56_1) <| V_ (opLoadOne (v := (.int .i64 s.low)) rfl (hC.hcell 0 rfl (o := 2) rfl) one3) <| V_ (opLss rfl rfl) <| M_ rfl ?_
 cases h11 : decide (low < s.low)
 ·
  refine wlOn rfl rfl <| M_ rfl <| wlOn rfl rfl ?_
  refine wlCallS hC hB rfl co25 rfl rfl (lowMay_ret _ _ hC.holds low) ?_; intro w hk hC hB
  refine wlOn rfl rfl <| V_ (opNot rfl) <| V_ (opPickF rfl rfl) <| A_ rfl <| wlThen ?_
  cases h12 : (lowB low)
  ·
   refine wcCondT rfl <| wcSeq <| wcRegion <| A_ rfl <| wlThen <| wcRet ?_
   exact r1_ hQ rfl rfl (endT hC _ ⟨[], List.Perm.of_eq (List.append_nil _).symm⟩ ⟨(by have e_ : (raiseI s low).1 = s := (by simp only [raiseI, h11, h12, ta_, zne]); rw [e_]; exact ⟨_, _, _, _, _, rfl, hn6, hM7, hH8⟩), (by simp only [raiseI, h11, h12, ta_, zne])⟩)
  ·
   refine wcCondF rfl <| wcSkip <| wcOf <| wcSeq <| wcRegion <| M_ rfl <| M_ rfl <| V_ (opNilCheck rfl) <| V_ (opFieldAddr rfl fo56_1) ?_
   obtain ⟨hC, hB⟩ := unhold hC hB (i := 0) rfl
   refine wlStore 0 (vs := [(.int .i64 low)]) (cs := [(.int .i64 s.crew.faults), (.slice A9 s.crew.nodes.length cap10), (.int .i64 s.low), (.map (some l2))]) (cs' := [(.int .i64 s.crew.faults), (.slice A9 s.crew.nodes.length cap10), (.int .i64 low), (.map (some l2))]) hC hB rfl rfl rfl sz3 rfl rfl rfl (by simp [cl_]) rfl rfl ?_; intro w hC hB
   obtain ⟨hC, hB⟩ := hold hC hB (i := 0) rfl
   refine wlThen (wcSeq (wcSeq (wcRegion ?_)))
   refine M_ rfl <| V_ (opNilCheck rfl) <| V_ (opFieldAddr rfl fo56_2) <| V_ (opLoadOne (v := (.map (some l2))) rfl (hC.hcell 0 rfl (o := 3) rfl) one54) ?_
   refine wlRange hM7 (hC.heldAt 1 rfl) hC hB rfl mk54 rfl ?_; intro r13 it14 w hC hB hI15
   refine wlThen <| wcBlock ?_
   refine WC.sub (wrInd (ι := (Int → Option SlotS) × Obj × (List Int) × Obj × (List (Int × Pt))) (fun i => match i with | (Fm, it, lf, om_, Dm) => lf.length) (fun i G w => match i with | (Fm, it, lf, om_, Dm) => Cx w0 G0 G w ⟨(List.map (·.1) ((bs, .cells [(.int .i64 s.crew.faults), (.slice A9 s.crew.nodes.length cap10), (.int .i64 s.low), (.map (some l2))].toArray 56 (0, 0)) :: (l2, om3) :: H5)), ((r13, it) :: (bs, .cells [(.int .i64 s.crew.faults), (.slice A9 s.crew.nodes.length cap10), (.int .i64 low), (.map (some l2))].toArray 56 (0, 0)) :: (l2, om_) :: H5)⟩ ∧ Bxs G w w0.heap.size [] ⟨(List.map (·.1) ((bs, .cells [(.int .i64 s.crew.faults), (.slice A9 s.crew.nodes.length cap10), (.int .i64 s.low), (.map (some l2))].toArray 56 (0, 0)) :: (l2, om3) :: H5)), ((r13, it) :: (bs, .cells [(.int .i64 s.crew.faults), (.slice A9 s.crew.nodes.length cap10), (.int .i64 low), (.map (some l2))].toArray 56 (0, 0)) :: (l2, om_) :: H5)⟩ ∧ Sl G (.slice A9 s.crew.nodes.length cap10) s.crew.nodes ∧ RowG G 0 0 silence.cells ∧ MpO kI G om_ Dm ∧ SlH G Dm H5 Fm ∧ ItO kI om_ it l2 lf ∧ lf.Nodup ∧ (∀ x, Fm x = if x ≤ low ∧ x ∉ lf then none else s.f x)) (fun i => match i with | (Fm, it, lf, om_, Dm) => (((Env.nil.put 0 (.pointer (some ⟨bs, 0, none⟩))).put 1 (.int .i64 low)).put 29 (.pointer (some ⟨r13, 0, none⟩)))) ?_ (s.f, it14, (List.map (fun x => x.1) D4), om3, D4) _ _ ⟨hC, hB, hn6, hsil, hM7, hH8, hI15, hM7.nodup, (ra_init hH8)⟩) (fun _ ha => (((ha.start.c ha 0 rfl).c ha 1 rfl).c ha 29 rfl))
   rintro ⟨Fm, it, lf, om_, Dm⟩ G w N0 IH0 ⟨hC, hB, hn6, hsil, hMom_, hHm, hIit, hnd, hFm⟩
   refine wcSeq <| wcRegion ?_
   rcases ItO.next (P := Tryz.prog) (ty := _) hMom_ hIit (hC.heldAt 0 rfl) (hC.heldAt 2 rfl) with ⟨hle16, hr17⟩ | ⟨la18, k19, lb20, v21, it22, w23, hle16, hw24, hr17, hI25, hc26⟩
   ·
    refine wlNext0 rfl hr17 rfl ?_
    refine V_ (opExtract rfl rfl) <| wlThen <| wcSeq <| wcCondF rfl <| wcExit <| wcOf <| wcSeq <| wcRegion <| M_ rfl ?_
    replace hC := hC.part (List.sublist_cons_self _ _)
    replace hB := hB.partH (List.sublist_cons_self _ _)
    have hFe := ra_end hFm hle16
    rw [hFe] at hHm
    refine wlCallW hC hB rfl co27 rfl rfl (fill_ret _ _ hC.holds bs _ ((SlS.mk s.crew low (raiseF s.f low))) (fun x hx => ⟨(hC.held x hx).1, (hC.held x hx).2.1⟩) hC.hnd ⟨_, _, _, _, _, rfl, hn6, hMom_, hHm⟩ hsil (lowB_of h12)) ?_; rintro v28 G O29 w hg hC hB ⟨hs30, rfl⟩
    replace hn6 := hn6.mono hg
    replace hsil := hsil.mono hg
    obtain ⟨v31, l32, om33, D34, H35, rfl, hn36, hM37, hH38⟩ := hs30
    obtain ⟨A39, cap40, rfl⟩ := hn36.form
    refine wlThen (wcSeq (wcRegion ?_))
    refine A_ rfl <| wlThen <| wcRet ?_
    exact r1_ hQ rfl rfl (endT hC _ ⟨[], List.Perm.of_eq (List.append_nil _).symm⟩ ⟨(by have e_ : (raiseI s low).1 = ((SlS.mk ((SlS.mk s.crew low (raiseF s.f low))).crew ((SlS.mk s.crew low (raiseF s.f low))).low (fillN ((SlS.mk s.crew low (raiseF s.f low))).f (((SlS.mk s.crew low (raiseF s.f low))).low + 1) 8))) := (by simp only [raiseI, h11, h12, ta_, zne]); rw [e_]; exact ⟨_, _, _, _, _, rfl, hn36, hM37, hH38⟩), (by simp only [raiseI, h11, h12, ta_, zne])⟩)
   ·
    refine wlNext1 hC hB (i := 0) rfl rfl hw24 hr17 rfl ?_; intro w hC hB
    refine V_ (opExtract rfl rfl) <| wlThen <| wcSeq <| wcCondT rfl <| wcSkip <| wcOf ?_
    refine wcBlock (wcSeq (wcRegion ?_))
    obtain ⟨v41, y42, hy43, hv44, hr45⟩ := hc26.entry (keyL_int ui3).inj hMom_
    obtain rfl := isPt hv44
    refine V_ (opEntryH rfl (hr45 _ _ (hC.heldAt 0 rfl) (hC.heldAt 2 rfl))) <| V_ (opExtract rfl rfl) <| A_ rfl ?_
    refine wlThen (wcSeq (wcRegion ?_))
    refine M_ rfl <| M_ rfl <| V_ (opLeq rfl rfl) <| wlThen ?_
    cases h46 : decide (k19 ≤ low)
    ·
     refine wcCondF rfl <| wcSkip <| wrOf ?_
     exact (IH0 (Fm, it22, (la18 ++ lb20), om_, Dm) _ _ ⟨hC, hB, hn6, hsil, hMom_, hHm, hI25, (nd_mid (hnd_eq hle16 hnd)).2, (ra_keep hFm hle16 h46)⟩ (by rw [hle16]; simp)).sub (fun _ ha => (((ha.start.c ha 0 rfl).c ha 1 rfl).c ha 29 rfl))
    ·
     refine wcCondT rfl <| wcRegion <| M_ rfl <| V_ (opNilCheck rfl) <| V_ (opFieldAddr rfl fo56_2) <| V_ (opLoadOne (v := (.map (some l2))) rfl (hC.hcell 1 rfl (o := 3) rfl) one54) <| M_ rfl ?_
     obtain ⟨q47, hM48, hr49, hit50⟩ := hMom_.del (keyL_int ui3) mk54 k19
     refine wlMapDelH hC hB (i := 2) rfl rfl rfl (hr49 _ _ _ _ (hC.heldAt 2 rfl)) rfl ?_; intro w hC hB
     replace hI25 := hit50 _ _ _ (nd_mid (hnd_eq hle16 hnd)).1 hI25
     have hH51 := hHm.delete k19
     refine wlNil <| wrOf ?_
     exact (IH0 ((del Fm k19), it22, (la18 ++ lb20), q47, (mdel Dm k19)) _ _ ⟨hC, hB, hn6, hsil, hM48, hH51, hI25, (nd_mid (hnd_eq hle16 hnd)).2, (ra_del hnd hFm hle16 h46)⟩ (by rw [hle16]; simp)).sub (fun _ ha => (((ha.start.c ha 0 rfl).c ha 1 rfl).c ha 29 rfl))
 ·
  refine wlOff rfl rfl rfl rfl <| wlOff rfl rfl rfl rfl <| wlOff rfl rfl rfl rfl <| V_ (opPickT rfl rfl) <| A_ rfl <| wlThen <| wcCondT rfl <| wcSeq <| wcRegion <| A_ rfl <| wlThen <| wcRet ?_
  exact r1_ hQ rfl rfl (endT hC _ ⟨[], List.Perm.of_eq (List.append_nil _).symm⟩ ⟨(by have e_ : (raiseI s low).1 = s := (by simp only [raiseI, h11, ta_, zne]); rw [e_]; exact ⟨_, _, _, _, _, rfl, hn6, hM7, hH8⟩), (by simp only [raiseI, h11, ta_, zne])⟩)

theorem restore_ret (G0 : Gh) (w0 : World) (hw : Holds G0 w0) (bs : Nat) (Os : List (Nat × Obj)) (s : SlS) (hOs : ∀ x ∈ Os, w0.heap[x.1]? = some x.2 ∧ G0 x.1 = none) (hds : (Os.map (·.1)).Nodup) (hs : SlO G0 bs Os s) (vpl : Value) (pl : List Stand) (hpl : Sl G0 vpl pl) (vql : Value) (ql : List Stand) (hql : Sl G0 vql ql) (hsil : RowG G0 0 0 silence.cells) (hok : SlOk s) (hlq : ql.length ≤ 1000000) :
  RetT Tryz.prog 20 #[.pointer (some ⟨bs, 0, none⟩), vpl, vql] G0 w0 (List.map (·.1) Os) (fun G O v_ => SlO G bs O (restI s pl ql).1 ∧ v_ = .int .i64 (restI s pl ql).2) := by
 have hC := Cx.refl hw
 have hB : Bxs G0 w0 w0.heap.size [] := Bxs.nil _ _ _
 obtain ⟨v1, l2, om3, D4, H5, rfl, hn6, hM7, hH8⟩ := hs
 obtain ⟨A9, cap10, rfl⟩ := hn6.form
 have hC := Cx.reflH ((bs, .cells [(.int .i64 s.crew.faults), (.slice A9 s.crew.nodes.length cap10), (.int .i64 s.low), (.map (some l2))].toArray 56 (0, 0)) :: (l2, om3) :: H5) (List.map (·.1) ((bs, .cells [(.int .i64 s.crew.faults), (.slice A9 s.crew.nodes.length cap10), (.int .i64 s.low), (.map (some l2))].toArray 56 (0, 0)) :: (l2, om3) :: H5)) hw (fun x hx => ⟨(hOs x hx).1, (hOs x hx).2, List.mem_map.2 ⟨x, hx, rfl⟩⟩) hds
 have hB : Bxs G0 w0 w0.heap.size [] ⟨(List.map (·.1) ((bs, .cells [(.int .i64 s.crew.faults), (.slice A9 s.crew.nodes.length cap10), (.int .i64 s.low), (.map (some l2))].toArray 56 (0, 0)) :: (l2, om3) :: H5)), ((bs, .cells [(.int .i64 s.crew.faults), (.slice A9 s.crew.nodes.length cap10), (.int .i64 s.low), (.map (some l2))].toArray 56 (0, 0)) :: (l2, om3) :: H5)⟩ := Bxs.nil _ _ _
 obtain ⟨A11, cap12, rfl⟩ := hpl.form
 obtain ⟨A13, cap14, rfl⟩ := hql.form
 refine callsOf Tryz.func20 rfl _ Tryz.ntmps20 rfl _ (argsCons (argsCons (argsCons argsNil (t := 0) rfl) (t := 1) rfl) (t := 2) rfl) ?_; intro Q0 hQ
 refine wcSeq <| wcRegion <| A_ rfl <| wlThen <| wcSeq ?_
 refine wcBlock (wcSeq (wcRegion ?_))
 refine M_ rfl ?_
 refine wlCallS hC hB rfl co48 rfl rfl (RetS.lend hC (fun G_ hg_ hh_ hL_ => none_ret _ _ hh_ bs l2 _ s (hL_ (bs, .cells [(.int .i64 s.crew.faults), (.slice A9 s.crew.nodes.length cap10), (.int .i64 s.low), (.map (some l2))].toArray 56 (0, 0)) (by simp)) (hn6.mono hg_))) ?_; intro w hk hC hB
 refine A_ rfl <| wlThen <| wcCondF rfl <| wcSeq <| wcRegion <| M_ rfl <| M_ rfl ?_
 refine wlCallS hC hB rfl co61 rfl rfl (RetS.lend hC (fun G_ hg_ hh_ hL_ => pMay_ret _ _ hh_ bs _ s hL_ ⟨_, _, _, _, _, rfl, (hn6.mono hg_), (hM7.mono hg_), (hH8.mono hg_)⟩ _ pl (hpl.mono hg_))) ?_; intro w hk hC hB
 refine V_ (opNot rfl) <| M_ rfl ?_
 cases h15 : ((pMayG s.f none pl))
 ·
  refine wlOff rfl rfl rfl rfl <| wlOff rfl rfl rfl rfl <| wlOff rfl rfl rfl rfl <| wlOff rfl rfl rfl rfl <| V_ (opPickT rfl rfl) <| A_ rfl <| wlThen <| wcCondT rfl <| wcSeq <| wcRegion <| A_ rfl <| wlThen <| wcRet ?_
  exact r1_ hQ rfl rfl (endT hC _ ⟨[], List.Perm.of_eq (List.append_nil _).symm⟩ ⟨(by have e_ : (restI s pl ql).1 = s := (by simp only [restI, h15, ta_, zne]); rw [e_]; exact ⟨_, _, _, _, _, rfl, hn6, hM7, hH8⟩), (by simp only [restI, h15, ta_, zne])⟩)
 ·
  refine wlOn rfl rfl <| M_ rfl <| wlOn rfl rfl <| M_ rfl <| wlOn rfl rfl ?_
  refine wlCallS hC hB rfl co62 rfl rfl (RetS.lend hC (fun G_ hg_ hh_ hL_ => qMay_ret _ _ hh_ bs _ s hL_ ⟨_, _, _, _, _, rfl, (hn6.mono hg_), (hM7.mono hg_), (hH8.mono hg_)⟩ _ ql (hql.mono hg_))) ?_; intro w hk hC hB
  refine wlOn rfl rfl <| V_ (opNot rfl) <| V_ (opPickF rfl rfl) <| A_ rfl <| wlThen ?_
  cases h16 : ((qMayG s.f none [] [] ql))
  ·
   refine wcCondT rfl <| wcSeq <| wcRegion <| A_ rfl <| wlThen <| wcRet ?_
   exact r1_ hQ rfl rfl (endT hC _ ⟨[], List.Perm.of_eq (List.append_nil _).symm⟩ ⟨(by have e_ : (restI s pl ql).1 = s := (by simp only [restI, h15, h16, ta_, zne]); rw [e_]; exact ⟨_, _, _, _, _, rfl, hn6, hM7, hH8⟩), (by simp only [restI, h15, h16, ta_, zne])⟩)
  ·
   refine wcCondF rfl <| wcSkip <| wcOf <| wcSeq <| wcRegion <| M_ rfl <| V_ (opNilCheck rfl) <| V_ (opFieldAddr rfl fo56_2) <| V_ (opLoadOne (v := (.map (some l2))) rfl (hC.hcell 0 rfl (o := 3) rfl) one54) ?_
   obtain ⟨q17, hM18, hr19⟩ := hM7.clear mk54
   refine wlMapClearH hC hB (i := 1) rfl rfl (hr19 _ _ _ (hC.heldAt 1 rfl)) rfl ?_; intro w hC hB
   have hH21 := hH8.cleared
   refine wlThen (wcSeq (wcRegion ?_))
   refine M_ rfl ?_
   refine wlCallW hC hB rfl co27 rfl rfl (fill_ret _ _ hC.holds bs _ ((SlS.mk s.crew s.low (fun _ => none))) (fun x hx => ⟨(hC.held x hx).1, (hC.held x hx).2.1⟩) hC.hnd ⟨_, _, _, _, _, rfl, hn6, hM18, hH21⟩ hsil hok.low) ?_; rintro v22 G O23 w hg hC hB ⟨hs24, rfl⟩
   replace hn6 := hn6.mono hg; replace hpl := hpl.mono hg; replace hql := hql.mono hg
   replace hsil := hsil.mono hg
   obtain ⟨v25, l26, om27, D28, H29, rfl, hn30, hM31, hH32⟩ := hs24
   obtain ⟨A33, cap34, rfl⟩ := hn30.form
   refine wlThen (wcSeq (wcSeq (wcRegion ?_)))
   refine M_ rfl <| V_ (opLen rfl isl38) <| M_ rfl <| wlThen <| wcBlock ?_
   refine WC.sub (wrInd (ι := Nat × (List (Nat × Obj)) × (Int → Option SlotS)) (fun i => match i with | (k, Op_, Fp) => pl.length - k) (fun i G w => match i with | (k, Op_, Fp) => Cx w0 G0 G w ⟨(List.map (·.1) ((bs, .cells [(.int .i64 s.crew.faults), (.slice A9 s.crew.nodes.length cap10), (.int .i64 s.low), (.map (some l2))].toArray 56 (0, 0)) :: (l2, om3) :: H5)), (Op_)⟩ ∧ Bxs G w w0.heap.size [] ⟨(List.map (·.1) ((bs, .cells [(.int .i64 s.crew.faults), (.slice A9 s.crew.nodes.length cap10), (.int .i64 s.low), (.map (some l2))].toArray 56 (0, 0)) :: (l2, om3) :: H5)), (Op_)⟩ ∧ Sl G (.slice A9 s.crew.nodes.length cap10) s.crew.nodes ∧ Sl G (.slice A11 pl.length cap12) pl ∧ Sl G (.slice A13 ql.length cap14) ql ∧ Sl G (.slice A33 ((((SlS.mk ((SlS.mk s.crew s.low (fun _ => none))).crew ((SlS.mk s.crew s.low (fun _ => none))).low (fillN ((SlS.mk s.crew s.low (fun _ => none))).f (((SlS.mk s.crew s.low (fun _ => none))).low + 1) 8))).crew.nodes).length) cap34) (((SlS.mk ((SlS.mk s.crew s.low (fun _ => none))).crew ((SlS.mk s.crew s.low (fun _ => none))).low (fillN ((SlS.mk s.crew s.low (fun _ => none))).f (((SlS.mk s.crew s.low (fun _ => none))).low + 1) 8))).crew.nodes) ∧ RowG G 0 0 silence.cells ∧ SlO G bs Op_ (SlS.mk s.crew s.low Fp) ∧ (pl.drop k).foldl setP Fp = pl.foldl setP (f0 s.low) ∧ (∀ y, (Fp y).isSome = (f0 s.low y).isSome) ∧ (∀ y u, Fp y = some u → u.q.length ≤ 0)) (fun i => match i with | (k, Op_, Fp) => (((((Env.nil.put 0 (.pointer (some ⟨bs, 0, none⟩))).put 2 (.slice A13 ql.length cap14)).put 32 (.slice A11 pl.length cap12)).put 33 (.int .i64 (((pl.length : Nat) : Int)))).put 34 (.int .i64 (((k : Nat) : Int))))) ?_ (0, ((bs, .cells [(.int .i64 (((SlS.mk ((SlS.mk s.crew s.low (fun _ => none))).crew ((SlS.mk s.crew s.low (fun _ => none))).low (fillN ((SlS.mk s.crew s.low (fun _ => none))).f (((SlS.mk s.crew s.low (fun _ => none))).low + 1) 8))).crew.faults)), (.slice A33 ((((SlS.mk ((SlS.mk s.crew s.low (fun _ => none))).crew ((SlS.mk s.crew s.low (fun _ => none))).low (fillN ((SlS.mk s.crew s.low (fun _ => none))).f (((SlS.mk s.crew s.low (fun _ => none))).low + 1) 8))).crew.nodes).length) cap34), (.int .i64 (((SlS.mk ((SlS.mk s.crew s.low (fun _ => none))).crew ((SlS.mk s.crew s.low (fun _ => none))).low (fillN ((SlS.mk s.crew s.low (fun _ => none))).f (((SlS.mk s.crew s.low (fun _ => none))).low + 1) 8))).low)), (.map (some l26))].toArray 56 (0, 0)) :: (l26, om27) :: H29), ((SlS.mk ((SlS.mk s.crew s.low (fun _ => none))).crew ((SlS.mk s.crew s.low (fun _ => none))).low (fillN ((SlS.mk s.crew s.low (fun _ => none))).f (((SlS.mk s.crew s.low (fun _ => none))).low + 1) 8))).f) _ _ ⟨hC, hB, hn6, hpl, hql, hn30, hsil, ⟨_, _, _, _, _, rfl, hn30, hM31, hH32⟩, rfl, (fun _ => rfl), (fun _ _ h => f0_q h)⟩) (fun _ ha => (((((ha.start.c ha 0 rfl).c ha 2 rfl).c ha 32 rfl).c ha 33 rfl).c ha 34 rfl))
   rintro ⟨k, Op_, Fp⟩ G w N0 IH0 ⟨hC, hB, hn6, hpl, hql, hn30, hsil, hWOp_, hP, hD, hE⟩
   obtain ⟨v35, l36, om37, D38, H39, rfl, hn40, hM41, hH42⟩ := hWOp_
   obtain ⟨A43, cap44, rfl⟩ := hn40.form
   refine wcSeq <| wcRegion <| V_ (opLssN rfl rfl) <| wlThen <| wcSeq ?_
   cases h45 : decide (k < pl.length)
   ·
    refine wcCondF rfl <| wcExit <| wcOf ?_
    refine wcSeq (wcSeq (wcRegion ?_))
    refine M_ rfl <| V_ (opLen rfl isl38) <| M_ rfl <| wlThen <| wcBlock ?_
    refine WC.sub (wrInd (ι := Nat × (List (Nat × Obj)) × (Int → Option SlotS)) (fun i => match i with | (k2, Oq_, Fq) => ql.length - k2) (fun i G w => match i with | (k2, Oq_, Fq) => Cx w0 G0 G w ⟨(List.map (·.1) ((bs, .cells [(.int .i64 s.crew.faults), (.slice A9 s.crew.nodes.length cap10), (.int .i64 s.low), (.map (some l2))].toArray 56 (0, 0)) :: (l2, om3) :: H5)), (Oq_)⟩ ∧ Bxs G w w0.heap.size [] ⟨(List.map (·.1) ((bs, .cells [(.int .i64 s.crew.faults), (.slice A9 s.crew.nodes.length cap10), (.int .i64 s.low), (.map (some l2))].toArray 56 (0, 0)) :: (l2, om3) :: H5)), (Oq_)⟩ ∧ Sl G (.slice A9 s.crew.nodes.length cap10) s.crew.nodes ∧ Sl G (.slice A11 pl.length cap12) pl ∧ Sl G (.slice A13 ql.length cap14) ql ∧ Sl G (.slice A33 ((((SlS.mk ((SlS.mk s.crew s.low (fun _ => none))).crew ((SlS.mk s.crew s.low (fun _ => none))).low (fillN ((SlS.mk s.crew s.low (fun _ => none))).f (((SlS.mk s.crew s.low (fun _ => none))).low + 1) 8))).crew.nodes).length) cap34) (((SlS.mk ((SlS.mk s.crew s.low (fun _ => none))).crew ((SlS.mk s.crew s.low (fun _ => none))).low (fillN ((SlS.mk s.crew s.low (fun _ => none))).f (((SlS.mk s.crew s.low (fun _ => none))).low + 1) 8))).crew.nodes) ∧ Sl G (.slice A43 s.crew.nodes.length cap44) s.crew.nodes ∧ RowG G 0 0 silence.cells ∧ SlO G bs Oq_ (SlS.mk s.crew s.low Fq) ∧ (ql.drop k2).foldl setQ Fq = ql.foldl setQ (pl.foldl setP (f0 s.low)) ∧ (∀ y, (Fq y).isSome = (f0 s.low y).isSome) ∧ (∀ y u, Fq y = some u → u.q.length ≤ k2)) (fun i => match i with | (k2, Oq_, Fq) => ((((Env.nil.put 0 (.pointer (some ⟨bs, 0, none⟩))).put 53 (.slice A13 ql.length cap14)).put 54 (.int .i64 (((ql.length : Nat) : Int)))).put 55 (.int .i64 (((k2 : Nat) : Int))))) ?_ (0, ((bs, .cells [(.int .i64 s.crew.faults), (.slice A43 s.crew.nodes.length cap44), (.int .i64 s.low), (.map (some l36))].toArray 56 (0, 0)) :: (l36, om37) :: H39), Fp) _ _ ⟨hC, hB, hn6, hpl, hql, hn30, hn40, hsil, ⟨_, _, _, _, _, rfl, hn40, hM41, hH42⟩, (by rw [← hP, List.drop_eq_nil_of_le (Nat.le_of_not_lt (of_decide_eq_false h45))]; rfl), hD, hE⟩) (fun _ ha => ((((ha.start.c ha 0 rfl).c ha 53 rfl).c ha 54 rfl).c ha 55 rfl))
    rintro ⟨k2, Oq_, Fq⟩ G w N1 IH1 ⟨hC, hB, hn6, hpl, hql, hn30, hn40, hsil, hWOq_, hQq, hD2, hL⟩
    obtain ⟨v46, l47, om48, D49, H50, rfl, hn51, hM52, hH53⟩ := hWOq_
    obtain ⟨A54, cap55, rfl⟩ := hn51.form
    refine wcSeq <| wcRegion <| V_ (opLssN rfl rfl) <| wlThen <| wcSeq ?_
    cases h56 : decide (k2 < ql.length)
    ·
     refine wcCondF rfl <| wcExit <| wcOf <| wcSeq <| wcRegion <| A_ rfl <| wlThen <| wcRet ?_
     exact r1_ hQ rfl rfl (endT hC _ ⟨[], List.Perm.of_eq (List.append_nil _).symm⟩ ⟨(by have e_ : (restI s pl ql).1 = (SlS.mk s.crew s.low Fq) := (by simp only [restI, h15, h16, ta_, zne]; rw [← hQq, List.drop_eq_nil_of_le (Nat.le_of_not_lt (of_decide_eq_false h56))]; rfl); rw [e_]; exact ⟨_, _, _, _, _, rfl, hn51, hM52, hH53⟩), (by simp only [restI, h15, h16, ta_, zne])⟩)
    ·
     refine wcCondT rfl <| wcSkip <| wcOf <| wcSeq ?_
     refine wcBlock (wcSeq (wcRegion ?_))
     obtain ⟨x57, hx58⟩ : ∃ y_, ql[k2]? = some y_ := ⟨_, List.getElem?_eq_getElem (of_decide_eq_true h56)⟩
     obtain ⟨b59, o60, row61, hA64, hr62, hi63⟩ := hql.elem hx58; subst hA64
     obtain rfl := hi63
     refine V_ (opIndexAddr rfl rfl slo38 (of_decide_eq_true h56)) <| V_ (opLoadRow (cs := x57.cells) rfl (RowG.range hC.holds hr62) row44 (by simp [cl_])) ?_
     refine wlAlloc hC hB zero44 rfl ?_; intro b65 w hk hC hB
     refine wlStore 0 (vs := x57.cells) (cs := ((.int .i64 0) :: (Dig.zero.cells ++ ((.int .i64 0) :: [])))) (cs' := x57.cells) hC hB rfl rfl rfl sz44 rfl (by simp [cl_]) (by simp [cl_, Value.oneCell']) (by simp [cl_]) (by simp [cl_]) rfl ?_; intro w hC hB
     refine wlThen <| wcSeq ?_
     refine wcDrawS 8 [0, 1, 3, 7, 0, 16, 63, 127] fmix (by kernel_rfl) (by kernel_rfl) rfl hC hB ?_; intro w hC hB
     refine D_ 0 rfl rfl (fun _ => opMove rfl) <| D_ 1 rfl rfl (fun _ => opNilCheck rfl) <| D_ 2 rfl rfl (fun _ => (opFieldAddr rfl fo56_2)) <| E_ 3 rfl rfl (opLoadOne (v := (.map (some l47))) rfl (hC.hcell 0 rfl (o := 3) rfl) one54) <| D_ 4 rfl rfl (fun _ => (opFieldAddr rfl fo44_0)) <| E_ 5 rfl rfl (opLoadOne (v := (.int .i64 x57.seq)) rfl (hB.cell (i := 0) rfl (by simp [cl_])) one3) ?_
     obtain ⟨v68, hv69, hr70⟩ := hM52.lookup (keyL_int ui3) mk54 zv75 (isPt' _ (Pt.mk none)) x57.seq
     rcases hf66 : Fq x57.seq with _ | t67
     ·
      exact (rs_dead hok (qMayG_mem h16) hx58 hD2 hf66 : False).elim
     ·
      obtain ⟨r71, H72, hD73, hS74, hp75, hR76⟩ := hH53.at_some hf66
      rw [hD73] at hv69
      replace hv69 : v68 = .pointer (some ⟨r71.p, 0, none⟩) := hv69
      subst hv69
      refine E_ 6 rfl rfl (opLookupH rfl rfl (hr70 _ _ (hC.heldAt 1 rfl))) ?_
      have hM77 := hS74.pre
      have hM78 := hS74.com
      have hq79 := hS74.q
      have hc80 : r71.c = ((.int .i64 t67.last.view) :: (t67.last.dig.cells ++ ((.int .i64 t67.prep.view) :: (t67.prep.dig.cells ++ ((.map (some r71.m1)) :: ((.map (some r71.m2)) :: (r71.vq :: []))))))) := hS74.c
      replace hC : Cx w0 G0 G w ⟨(List.map (·.1) ((bs, .cells [(.int .i64 s.crew.faults), (.slice A9 s.crew.nodes.length cap10), (.int .i64 s.low), (.map (some l2))].toArray 56 (0, 0)) :: (l2, om3) :: H5)), ((bs, .cells [(.int .i64 s.crew.faults), (.slice A54 s.crew.nodes.length cap55), (.int .i64 s.low), (.map (some l47))].toArray 56 (0, 0)) :: (l47, om48) :: (r71.p, .cells ((.int .i64 t67.last.view) :: (t67.last.dig.cells ++ ((.int .i64 t67.prep.view) :: (t67.prep.dig.cells ++ ((.map (some r71.m1)) :: ((.map (some r71.m2)) :: (r71.vq :: []))))))).toArray 81 (0, 0)) :: (r71.m1, r71.o1) :: (r71.m2, r71.o2) :: (ob r71.oq ++ H72))⟩ := by rw [← hc80]; exact hC.permH ((hp75.cons _).cons _)
      replace hB : Bxs G w w0.heap.size [(b65, 44, x57.cells)] ⟨(List.map (·.1) ((bs, .cells [(.int .i64 s.crew.faults), (.slice A9 s.crew.nodes.length cap10), (.int .i64 s.low), (.map (some l2))].toArray 56 (0, 0)) :: (l2, om3) :: H5)), ((bs, .cells [(.int .i64 s.crew.faults), (.slice A54 s.crew.nodes.length cap55), (.int .i64 s.low), (.map (some l47))].toArray 56 (0, 0)) :: (l47, om48) :: (r71.p, .cells ((.int .i64 t67.last.view) :: (t67.last.dig.cells ++ ((.int .i64 t67.prep.view) :: (t67.prep.dig.cells ++ ((.map (some r71.m1)) :: ((.map (some r71.m2)) :: (r71.vq :: []))))))).toArray 81 (0, 0)) :: (r71.m1, r71.o1) :: (r71.m2, r71.o2) :: (ob r71.oq ++ H72))⟩ := by rw [← hc80]; exact hB.permH ((hp75.cons _).cons _)
      refine D_ 7 rfl rfl (fun _ => opAssign rfl) <| wdDone (by kernel_rfl) <| wcOf <| wcSeq ?_
      refine wcDrawS 11 [0, 0, 2, 6, 14, 0, 32, 126, 255, 511, 1023] fmix (by kernel_rfl) (by kernel_rfl) rfl hC hB ?_; intro w hC hB
      refine D_ 0 rfl rfl (fun _ => opMove rfl) <| D_ 1 rfl rfl (fun _ => opMove rfl) <| D_ 2 rfl rfl (fun _ => opNilCheck rfl) <| D_ 3 rfl rfl (fun _ => (opFieldAddr rfl fo81_4)) ?_
      obtain ⟨A81, cap82, e83⟩ := hq79.form
      rw [e83] at hq79 hC hB
      replace hC := hC.permH (List.perm_append_comm_assoc [(bs, Obj.cells [(Value.int .i64 s.crew.faults), (Value.slice A54 s.crew.nodes.length cap55), (Value.int .i64 s.low), (Value.map (some l47))].toArray 56 (0, 0)), (l47, om48), (r71.p, Obj.cells ((Value.int .i64 t67.last.view) :: (t67.last.dig.cells ++ ((Value.int .i64 t67.prep.view) :: (t67.prep.dig.cells ++ ((Value.map (some r71.m1)) :: ((Value.map (some r71.m2)) :: ((Value.slice A81 t67.q.length cap82) :: []))))))).toArray 81 (0, 0)), (r71.m1, r71.o1), (r71.m2, r71.o2)] (ob r71.oq) H72)
      replace hB := hB.permH (List.perm_append_comm_assoc [(bs, Obj.cells [(Value.int .i64 s.crew.faults), (Value.slice A54 s.crew.nodes.length cap55), (Value.int .i64 s.low), (Value.map (some l47))].toArray 56 (0, 0)), (l47, om48), (r71.p, Obj.cells ((Value.int .i64 t67.last.view) :: (t67.last.dig.cells ++ ((Value.int .i64 t67.prep.view) :: (t67.prep.dig.cells ++ ((Value.map (some r71.m1)) :: ((Value.map (some r71.m2)) :: ((Value.slice A81 t67.q.length cap82) :: []))))))).toArray 81 (0, 0)), (r71.m1, r71.o1), (r71.m2, r71.o2)] (ob r71.oq) H72)
      obtain ⟨hC, hB⟩ := unholdO (o := r71.oq) (L := [(bs, Obj.cells [(Value.int .i64 s.crew.faults), (Value.slice A54 s.crew.nodes.length cap55), (Value.int .i64 s.low), (Value.map (some l47))].toArray 56 (0, 0)), (l47, om48), (r71.p, Obj.cells ((Value.int .i64 t67.last.view) :: (t67.last.dig.cells ++ ((Value.int .i64 t67.prep.view) :: (t67.prep.dig.cells ++ ((Value.map (some r71.m1)) :: ((Value.map (some r71.m2)) :: ((Value.slice A81 t67.q.length cap82) :: []))))))).toArray 81 (0, 0)), (r71.m1, r71.o1), (r71.m2, r71.o2)] ++ H72) (bl := [(b65, 44, x57.cells)]) (r := []) hC (by first | exact hB | simpa using hB)
      refine E_ 4 rfl rfl (opLoadOne (v := (.slice A81 t67.q.length cap82)) rfl (hC.hcell 2 rfl (o := 68) (by simp [cl_])) one38) <| E_ 5 rfl rfl (opLoadRow (cs := x57.cells) rfl (hB.range (i := 0) (m := 34) rfl (by simp [cl_])) row44 (by simp [cl_])) ?_
      refine wdAll [6] (by kernel_rfl) rfl ⟨wd1 rfl ?_, trivial⟩
      intro hGd
      refine wlBuildSlice (α := Stand) (ps := [(0, .tmp 71)]) (xs := [x57]) (rows := [x57.cells]) elo38 rfl rfl hC hB rfl rfl rfl ⟨rfl, trivial⟩ rfl ?_; intro b84 G w hk hC hB hs85
      replace hn6 := hn6.mono hk.gle; replace hpl := hpl.mono hk.gle; replace hql := hql.mono hk.gle; replace hn30 := hn30.mono hk.gle; replace hn40 := hn40.mono hk.gle; replace hn51 := hn51.mono hk.gle; replace hM52 := hM52.mono hk.gle; replace hM77 := hM77.mono hk.gle; replace hM78 := hM78.mono hk.gle; replace hR76 := hR76.mono hk.gle; replace hq79 := hq79.mono hk.gle
      replace hsil := hsil.mono hk.gle
      refine wdNext hGd rfl (kpDrop rfl (kpKeep rfl kpNil)) (Tk.cons (p := (_, fun w => OpVal _ _ _ w _ _)) (opLoadOne (v := (.slice A81 t67.q.length cap82)) rfl (hC.hcell 2 rfl (o := 68) (by simp [cl_])) one38) (Tk.nil _)) ?_
      refine wdAll [7] (by kernel_rfl) rfl ⟨wd1 rfl ?_, trivial⟩
      intro hGd
      refine wlAppend (α := Stand) (bl := [(b65, 44, x57.cells)]) (o := r71.oq) (r := []) elo38 hC hB rfl rfl hq79 hs85 (by have q1 := hL _ _ hf66; have q2 := hlq; have q3 := of_decide_eq_true h56; simp; omega) rfl rfl ?_; intro A86 cap87 o88 w hC hB hO89
      refine wdNext hGd rfl (kpDrop rfl kpNil) (Tk.nil _) ?_
      refine D_ 8 rfl rfl (fun _ => opNilCheck rfl) <| D_ 9 rfl rfl (fun _ => (opFieldAddr rfl fo81_4)) ?_
      refine wdAll [10] (by kernel_rfl) rfl ⟨wd1 rfl ?_, trivial⟩
      intro hGd
      obtain ⟨hC, hB⟩ := unhold hC hB (i := 2) rfl
      refine wlStore 0 (vs := [(.slice A86 (((t67.q ++ [x57])).length) cap87)]) (cs := ((.int .i64 t67.last.view) :: (t67.last.dig.cells ++ ((.int .i64 t67.prep.view) :: (t67.prep.dig.cells ++ ((.map (some r71.m1)) :: ((.map (some r71.m2)) :: ((.slice A81 t67.q.length cap82) :: [])))))))) (cs' := ((.int .i64 t67.last.view) :: (t67.last.dig.cells ++ ((.int .i64 t67.prep.view) :: (t67.prep.dig.cells ++ ((.map (some r71.m1)) :: ((.map (some r71.m2)) :: ((.slice A86 (((t67.q ++ [x57])).length) cap87) :: [])))))))) hC hB rfl rfl rfl sz38 rfl rfl rfl (by simp [cl_]) (by simp [cl_]) rfl ?_; intro w hC hB
      obtain ⟨hC, hB⟩ := hold hC hB (i := 0) rfl
      replace hC := hC.permH (List.perm_middle (l₁ := [(bs, Obj.cells [(.int .i64 s.crew.faults), (.slice A54 s.crew.nodes.length cap55), (.int .i64 s.low), (.map (some l47))].toArray 56 (0, 0)), (l47, om48)]) (l₂ := ((r71.m1, r71.o1) :: (r71.m2, r71.o2) :: H72))).symm
      replace hB := hB.permH (List.perm_middle (l₁ := [(bs, Obj.cells [(.int .i64 s.crew.faults), (.slice A54 s.crew.nodes.length cap55), (.int .i64 s.low), (.map (some l47))].toArray 56 (0, 0)), (l47, om48)]) (l₂ := ((r71.m1, r71.o1) :: (r71.m2, r71.o2) :: H72))).symm
      refine wdNext hGd rfl kpNil (Tk.nil _) ?_
      refine wdDone (by kernel_rfl) <| wcOf <| wcRegion <| M_ rfl <| V_ (opFieldAddr rfl fo44_2) <| V_ (opLoadOne (v := (.int .i64 x57.view)) rfl (hB.cell (i := 0) rfl (by simp [cl_])) one3) <| V_ (opFieldAddr rfl fo44_1) <| V_ (opLoadRow (cs := x57.dig.cells) rfl (hB.range (i := 0) (m := 32) rfl (by simp [cl_])) row37 (by simp [cl_])) <| V_ (B_ (ps := [(0, .tmp 78), (1, .tmp 80)]) (cs := ((.int .i64 x57.view) :: (x57.dig.cells ++ []))) so78 zero78 rfl rfl) <| V_ (opNilCheck rfl) <| V_ (opFieldAddr rfl fo81_0) ?_
      obtain ⟨hC, hB⟩ := unhold hC hB (i := 2) rfl
      refine wlStore 0 (vs := ((.int .i64 x57.view) :: (x57.dig.cells ++ []))) (cs := ((.int .i64 t67.last.view) :: (t67.last.dig.cells ++ ((.int .i64 t67.prep.view) :: (t67.prep.dig.cells ++ ((.map (some r71.m1)) :: ((.map (some r71.m2)) :: ((.slice A86 (((t67.q ++ [x57])).length) cap87) :: [])))))))) (cs' := ((.int .i64 x57.view) :: (x57.dig.cells ++ ((.int .i64 t67.prep.view) :: (t67.prep.dig.cells ++ ((.map (some r71.m1)) :: ((.map (some r71.m2)) :: ((.slice A86 (((t67.q ++ [x57])).length) cap87) :: [])))))))) hC hB rfl rfl rfl sz78 rfl (by simp [cl_]) (by simp [cl_, Value.oneCell']) (by simp [cl_]) (by simp [cl_]) rfl ?_; intro w hC hB
      obtain ⟨hC, hB⟩ := hold hC hB (i := 0) rfl
      replace hC := hC.permH (List.perm_middle (l₁ := [(bs, Obj.cells [(.int .i64 s.crew.faults), (.slice A54 s.crew.nodes.length cap55), (.int .i64 s.low), (.map (some l47))].toArray 56 (0, 0)), (l47, om48)]) (l₂ := ((r71.m1, r71.o1) :: (r71.m2, r71.o2) :: H72))).symm
      replace hB := hB.permH (List.perm_middle (l₁ := [(bs, Obj.cells [(.int .i64 s.crew.faults), (.slice A54 s.crew.nodes.length cap55), (.int .i64 s.low), (.map (some l47))].toArray 56 (0, 0)), (l47, om48)]) (l₂ := ((r71.m1, r71.o1) :: (r71.m2, r71.o2) :: H72))).symm
      refine wlNil <| wcOf <| wcRegion <| V_ (opIncr rfl rfl (incr_ok (of_decide_eq_true h56) hql.le)) <| M_ rfl <| wlRound ?_
      obtain ⟨hC, hB⟩ := holdO (o := o88) (bl := [(b65, 44, x57.cells)]) (r := []) hC hB
      replace hC := hC.permH (List.perm_append_comm_assoc (ob o88) [(bs, Obj.cells [(Value.int .i64 s.crew.faults), (Value.slice A54 s.crew.nodes.length cap55), (Value.int .i64 s.low), (Value.map (some l47))].toArray 56 (0, 0)), (l47, om48), (r71.p, Obj.cells ((Value.int .i64 x57.view) :: (x57.dig.cells ++ ((Value.int .i64 t67.prep.view) :: (t67.prep.dig.cells ++ ((Value.map (some r71.m1)) :: ((Value.map (some r71.m2)) :: ((Value.slice A86 (((t67.q ++ [x57])).length) cap87) :: []))))))).toArray 81 (0, 0)), (r71.m1, r71.o1), (r71.m2, r71.o2)] H72)
      replace hB := hB.permH (List.perm_append_comm_assoc (ob o88) [(bs, Obj.cells [(Value.int .i64 s.crew.faults), (Value.slice A54 s.crew.nodes.length cap55), (Value.int .i64 s.low), (Value.map (some l47))].toArray 56 (0, 0)), (l47, om48), (r71.p, Obj.cells ((Value.int .i64 x57.view) :: (x57.dig.cells ++ ((Value.int .i64 t67.prep.view) :: (t67.prep.dig.cells ++ ((Value.map (some r71.m1)) :: ((Value.map (some r71.m2)) :: ((Value.slice A86 (((t67.q ++ [x57])).length) cap87) :: []))))))).toArray 81 (0, 0)), (r71.m1, r71.o1), (r71.m2, r71.o2)] H72)
      have hq90 := hO89
      have hl91 : ((t67.q ++ [x57])).length ≤ maxL := (by have q1 := hL _ _ hf66; have q2 := hlq; have q3 := of_decide_eq_true h56; unfold maxL; simp; omega)
      exact (IH1 (k2 + 1, ((bs, Obj.cells [(Value.int .i64 s.crew.faults), (Value.slice A54 s.crew.nodes.length cap55), (Value.int .i64 s.low), (Value.map (some l47))].toArray 56 (0, 0)) :: (l47, om48) :: (r71.p, Obj.cells ((Value.int .i64 x57.view) :: (x57.dig.cells ++ ((Value.int .i64 t67.prep.view) :: (t67.prep.dig.cells ++ ((Value.map (some r71.m1)) :: ((Value.map (some r71.m2)) :: ((Value.slice A86 (((t67.q ++ [x57])).length) cap87) :: []))))))).toArray 81 (0, 0)) :: (r71.m1, r71.o1) :: (r71.m2, r71.o2) :: (ob o88 ++ H72)), (upd Fq x57.seq (SlotS.mk ((Wd.mk x57.view x57.dig)) t67.prep t67.pre t67.com ((t67.q ++ [x57]))))) _ _ ⟨hC, hB.tail, hn6, hpl, hql, hn30, hn40, hsil, ⟨_, _, _, _, _, rfl, hn51, hM52, (hR76 _ ⟨r71.p, r71.m1, r71.m2, ((Value.int .i64 x57.view) :: (x57.dig.cells ++ ((Value.int .i64 t67.prep.view) :: (t67.prep.dig.cells ++ ((Value.map (some r71.m1)) :: ((Value.map (some r71.m2)) :: ((Value.slice A86 (((t67.q ++ [x57])).length) cap87) :: []))))))), r71.o1, r71.o2, (.slice A86 (((t67.q ++ [x57])).length) cap87), o88⟩ (SlotS.mk ((Wd.mk x57.view x57.dig)) t67.prep t67.pre t67.com ((t67.q ++ [x57]))) (fun _ _ h => h) rfl ⟨rfl, hM77, hM78, hq90, hl91⟩)⟩, (by rw [← hQq, drop_get hx58, List.foldl_cons]; simp only [setQ, hf66]), (fun y => by rw [upd_isSome hf66 y]; exact hD2 y), (upd_q (fun y u h => Nat.le_succ_of_le (hL y u h)) (by have q1 := hL _ _ hf66; simp; omega))⟩ (by have := of_decide_eq_true h56; simp; omega)).sub (fun _ ha => ((((ha.start.c ha 0 rfl).c ha 53 rfl).c ha 54 rfl).c ha 55 rfl))
   ·
    refine wcCondT rfl <| wcSkip <| wcOf <| wcSeq ?_
    refine wcBlock (wcSeq (wcRegion ?_))
    obtain ⟨x92, hx93⟩ : ∃ y_, pl[k]? = some y_ := ⟨_, List.getElem?_eq_getElem (of_decide_eq_true h45)⟩
    obtain ⟨b94, o95, row96, hA99, hr97, hi98⟩ := hpl.elem hx93; subst hA99
    obtain rfl := hi98
    refine V_ (opIndexAddr rfl rfl slo38 (of_decide_eq_true h45)) <| V_ (opLoadRow (cs := x92.cells) rfl (RowG.range hC.holds hr97) row44 (by simp [cl_])) ?_
    refine wlAlloc hC hB zero44 rfl ?_; intro b100 w hk hC hB
    refine wlStore 0 (vs := x92.cells) (cs := ((.int .i64 0) :: (Dig.zero.cells ++ ((.int .i64 0) :: [])))) (cs' := x92.cells) hC hB rfl rfl rfl sz44 rfl (by simp [cl_]) (by simp [cl_, Value.oneCell']) (by simp [cl_]) (by simp [cl_]) rfl ?_; intro w hC hB
    refine wlThen ?_
    refine wcDrawS 15 [0, 1, 3, 7, 0, 16, 63, 0, 128, 0, 512, 1920, 4095, 8191, 16383] fmix (by kernel_rfl) (by kernel_rfl) rfl hC hB ?_; intro w hC hB
    refine D_ 0 rfl rfl (fun _ => opMove rfl) <| D_ 1 rfl rfl (fun _ => opNilCheck rfl) <| D_ 2 rfl rfl (fun _ => (opFieldAddr rfl fo56_2)) <| E_ 3 rfl rfl (opLoadOne (v := (.map (some l36))) rfl (hC.hcell 0 rfl (o := 3) rfl) one54) <| D_ 4 rfl rfl (fun _ => (opFieldAddr rfl fo44_0)) <| E_ 5 rfl rfl (opLoadOne (v := (.int .i64 x92.seq)) rfl (hB.cell (i := 0) rfl (by simp [cl_])) one3) ?_
    obtain ⟨v103, hv104, hr105⟩ := hM41.lookup (keyL_int ui3) mk54 zv75 (isPt' _ (Pt.mk none)) x92.seq
    rcases hf101 : Fp x92.seq with _ | t102
    ·
     exact (rs_dead hok (pMayG_mem h15) hx93 hD hf101 : False).elim
    ·
     obtain ⟨r106, H107, hD108, hS109, hp110, hR111⟩ := hH42.at_some hf101
     rw [hD108] at hv104
     replace hv104 : v103 = .pointer (some ⟨r106.p, 0, none⟩) := hv104
     subst hv104
     refine E_ 6 rfl rfl (opLookupH rfl rfl (hr105 _ _ (hC.heldAt 1 rfl))) ?_
     have hM112 := hS109.pre
     have hM113 := hS109.com
     have hq114 := hS109.q
     have hc115 : r106.c = ((.int .i64 t102.last.view) :: (t102.last.dig.cells ++ ((.int .i64 t102.prep.view) :: (t102.prep.dig.cells ++ ((.map (some r106.m1)) :: ((.map (some r106.m2)) :: (r106.vq :: []))))))) := hS109.c
     replace hC : Cx w0 G0 G w ⟨(List.map (·.1) ((bs, .cells [(.int .i64 s.crew.faults), (.slice A9 s.crew.nodes.length cap10), (.int .i64 s.low), (.map (some l2))].toArray 56 (0, 0)) :: (l2, om3) :: H5)), ((bs, .cells [(.int .i64 s.crew.faults), (.slice A43 s.crew.nodes.length cap44), (.int .i64 s.low), (.map (some l36))].toArray 56 (0, 0)) :: (l36, om37) :: (r106.p, .cells ((.int .i64 t102.last.view) :: (t102.last.dig.cells ++ ((.int .i64 t102.prep.view) :: (t102.prep.dig.cells ++ ((.map (some r106.m1)) :: ((.map (some r106.m2)) :: (r106.vq :: []))))))).toArray 81 (0, 0)) :: (r106.m1, r106.o1) :: (r106.m2, r106.o2) :: (ob r106.oq ++ H107))⟩ := by rw [← hc115]; exact hC.permH ((hp110.cons _).cons _)
     replace hB : Bxs G w w0.heap.size [(b100, 44, x92.cells)] ⟨(List.map (·.1) ((bs, .cells [(.int .i64 s.crew.faults), (.slice A9 s.crew.nodes.length cap10), (.int .i64 s.low), (.map (some l2))].toArray 56 (0, 0)) :: (l2, om3) :: H5)), ((bs, .cells [(.int .i64 s.crew.faults), (.slice A43 s.crew.nodes.length cap44), (.int .i64 s.low), (.map (some l36))].toArray 56 (0, 0)) :: (l36, om37) :: (r106.p, .cells ((.int .i64 t102.last.view) :: (t102.last.dig.cells ++ ((.int .i64 t102.prep.view) :: (t102.prep.dig.cells ++ ((.map (some r106.m1)) :: ((.map (some r106.m2)) :: (r106.vq :: []))))))).toArray 81 (0, 0)) :: (r106.m1, r106.o1) :: (r106.m2, r106.o2) :: (ob r106.oq ++ H107))⟩ := by rw [← hc115]; exact hB.permH ((hp110.cons _).cons _)
     refine D_ 7 rfl rfl (fun _ => (opFieldAddr rfl fo44_2)) <| E_ 8 rfl rfl (opLoadOne (v := (.int .i64 x92.view)) rfl (hB.cell (i := 0) rfl (by simp [cl_])) one3) <| D_ 9 rfl rfl (fun _ => (opFieldAddr rfl fo44_1)) <| E_ 10 rfl rfl (opLoadRow (cs := x92.dig.cells) rfl (hB.range (i := 0) (m := 32) rfl (by simp [cl_])) row37 (by simp [cl_])) <| D_ 11 rfl rfl (fun _ => (B_ (ps := [(0, .tmp 46), (1, .tmp 48)]) (cs := ((.int .i64 x92.view) :: (x92.dig.cells ++ []))) so78 zero78 rfl rfl)) <| D_ 12 rfl rfl (fun _ => opNilCheck rfl) <| D_ 13 rfl rfl (fun _ => (opFieldAddr rfl fo81_1)) ?_
     refine wdAll [14] (by kernel_rfl) rfl ⟨wd1 rfl ?_, trivial⟩
     intro hGd
     obtain ⟨hC, hB⟩ := unhold hC hB (i := 2) rfl
     refine wlStore 0 (vs := ((.int .i64 x92.view) :: (x92.dig.cells ++ []))) (cs := ((.int .i64 t102.last.view) :: (t102.last.dig.cells ++ ((.int .i64 t102.prep.view) :: (t102.prep.dig.cells ++ ((.map (some r106.m1)) :: ((.map (some r106.m2)) :: (r106.vq :: [])))))))) (cs' := ((.int .i64 t102.last.view) :: (t102.last.dig.cells ++ ((.int .i64 x92.view) :: (x92.dig.cells ++ ((.map (some r106.m1)) :: ((.map (some r106.m2)) :: (r106.vq :: [])))))))) hC hB rfl rfl rfl sz78 rfl (by simp [cl_]) (by simp [cl_, Value.oneCell']) (by simp [cl_]) (by simp [cl_]) rfl ?_; intro w hC hB
     obtain ⟨hC, hB⟩ := hold hC hB (i := 0) rfl
     replace hC := hC.permH (List.perm_middle (l₁ := [(bs, Obj.cells [(.int .i64 s.crew.faults), (.slice A43 s.crew.nodes.length cap44), (.int .i64 s.low), (.map (some l36))].toArray 56 (0, 0)), (l36, om37)]) (l₂ := ((r106.m1, r106.o1) :: (r106.m2, r106.o2) :: (ob r106.oq ++ H107)))).symm
     replace hB := hB.permH (List.perm_middle (l₁ := [(bs, Obj.cells [(.int .i64 s.crew.faults), (.slice A43 s.crew.nodes.length cap44), (.int .i64 s.low), (.map (some l36))].toArray 56 (0, 0)), (l36, om37)]) (l₂ := ((r106.m1, r106.o1) :: (r106.m2, r106.o2) :: (ob r106.oq ++ H107)))).symm
     refine wdNext hGd rfl (kpDrop rfl (kpDrop rfl (kpDrop rfl (kpDrop rfl (kpDrop rfl kpNil))))) (Tk.nil _) ?_
     refine wdDone (by kernel_rfl) <| wcOf <| wcRegion <| V_ (opIncr rfl rfl (incr_ok (of_decide_eq_true h45) hpl.le)) <| M_ rfl <| wlRound ?_
     exact (IH0 (k + 1, ((bs, Obj.cells [(Value.int .i64 s.crew.faults), (Value.slice A43 s.crew.nodes.length cap44), (Value.int .i64 s.low), (Value.map (some l36))].toArray 56 (0, 0)) :: (l36, om37) :: (r106.p, Obj.cells ((Value.int .i64 t102.last.view) :: (t102.last.dig.cells ++ ((Value.int .i64 x92.view) :: (x92.dig.cells ++ ((Value.map (some r106.m1)) :: ((Value.map (some r106.m2)) :: (r106.vq :: []))))))).toArray 81 (0, 0)) :: (r106.m1, r106.o1) :: (r106.m2, r106.o2) :: (ob r106.oq ++ H107)), (upd Fp x92.seq (SlotS.mk t102.last ((Wd.mk x92.view x92.dig)) t102.pre t102.com t102.q))) _ _ ⟨hC, hB.tail, hn6, hpl, hql, hn30, hsil, ⟨_, _, _, _, _, rfl, hn40, hM41, (hR111 _ ⟨r106.p, r106.m1, r106.m2, ((Value.int .i64 t102.last.view) :: (t102.last.dig.cells ++ ((Value.int .i64 x92.view) :: (x92.dig.cells ++ ((Value.map (some r106.m1)) :: ((Value.map (some r106.m2)) :: (r106.vq :: []))))))), r106.o1, r106.o2, r106.vq, r106.oq⟩ (SlotS.mk t102.last ((Wd.mk x92.view x92.dig)) t102.pre t102.com t102.q) (fun _ _ h => h) rfl ⟨rfl, hM112, hM113, hq114, hS109.ql⟩)⟩, (by rw [← hP, drop_get hx93, List.foldl_cons]; simp only [setP, hf101]), (fun y => by rw [upd_isSome hf101 y]; exact hD y), (upd_q hE (by have q1 := hE _ _ hf101; exact q1))⟩ (by have := of_decide_eq_true h45; simp; omega)).sub (fun _ ha => (((((ha.start.c ha 0 rfl).c ha 2 rfl).c ha 32 rfl).c ha 33 rfl).c ha 34 rfl))

end Go.Proofs.YtljcgggflgbenaaGreatDoor
