/- What functions of the marks seat return, part 5. No condition. -/
import Derived.Test.YtbmanooiphghmaaMkG4
set_option linter.all false
namespace Go.Proofs.Ytbmanooiphghmaa
open Go Go.Gx Go.RowKit
abbrev kM : Mark → Value := fun x => .agg x.cells.toArray
theorem ua26q : Try.prog.underlying 26 = some (.array 32 5) := by kernel_rfl
theorem ub5q : Try.prog.underlying 5 = some (.int .u8) := by kernel_rfl
theorem on5q : oneOk Try.prog 5 = true := by kernel_rfl
theorem sz5' : (Try.prog.info? 5).map (·.size) = some 1 := by kernel_rfl
theorem rw26q : rowOk Try.prog 26 32 = true := by kernel_rfl
theorem on3q : oneOk Try.prog 3 = true := by kernel_rfl
theorem un3q : Try.prog.underlying 3 = some (.int .i64) := by kernel_rfl
theorem cells_num (x : Mark) : ∀ v ∈ x.cells, isNum v = true := by
  intro v hv
  simp only [Mark.cells, List.mem_cons, List.mem_append, List.not_mem_nil, or_false] at hv
  rcases hv with rfl | hv
  · rfl
  · simp only [Dig.cells, List.mem_map] at hv
    obtain ⟨b, _, rfl⟩ := hv; rfl
theorem digcells_inj {a b : Dig} (h : a.cells = b.cells) : a = b := by
  have : a.l = b.l := by
    have := h
    unfold Dig.cells at this
    exact (List.map_inj_right (fun x y hxy => by
      simp only [Value.int.injEq, true_and] at hxy
      exact UInt8.toNat_inj.1 (by omega))).1 this
  cases a; cases b; simp only [] at this; subst this; rfl
theorem cells_inj (x y : Mark) (h : x.cells = y.cells) : x = y := by
  simp only [Mark.cells, List.append_nil, List.cons.injEq, Value.int.injEq, true_and] at h
  have := digcells_inj h.2
  cases x; cases y; simp only [] at h this; rw [h.1, this]
theorem keyL28 : KeyL Try.prog 28 kM := keyL_row fa28 cells_num (fun x y w => eq28 9996 x y w) cells_inj (fun b x w => checkKey_struct fa28 b 9999 w (fun p hp => by
  simp only [List.mem_cons, List.not_mem_nil, or_false] at hp
  rcases hp with rfl | rfl
  · exact ⟨_, run_part_one on3q (v := .int .i64 x.seq) (by simp [Mark.cells]) w, checkKey_int un3q b 9998 _ w⟩
  · exact ⟨_, run_part_row rw26q w, checkKey_array ua26q ub5q on5q sz5' b 9997 _ (by simp [Mark.cells]) w⟩))
theorem cmpM_dec (a b : Mark) : decide (0 < cmpM a b) = decide (0 < orI [cmpI a.seq b.seq, cmpB b.dig.l a.dig.l]) := rfl
def tal (ls : List (List Mark)) (x : Mark) : Option Int := bif cntL ls x == 0 then none else some ((cntL ls x : Nat) : Int)
theorem keys_vals {κ : Type} [DecidableEq κ] {β : Type} {z : β} : ∀ {l : List (κ × β)}, (l.map (·.1)).Nodup → (l.map (·.1)).map (fun k => (mget l k).getD z) = l.map (·.2) := by
  intro l h
  rw [List.map_map]
  apply List.map_congr_left
  intro p hp
  obtain ⟨i, hi⟩ := List.getElem?_of_mem hp
  simp [mget_nodup h hi]
theorem dl_step {l : List (Int × List Mark)} {dl : List (List Mark)} {lf la lb : List Int} {k : Int} {y : List Mark} (h : (dl ++ lf.map (fun k => (mget l k).getD [])).Perm (l.map (·.2))) (e : lf = la ++ k :: lb) (hy : mget l k = some y) :
    (y :: dl ++ (la ++ lb).map (fun k => (mget l k).getD [])).Perm (l.map (·.2)) := by
  subst e
  refine List.Perm.trans ?_ h
  rw [List.map_append, List.map_append, List.map_cons, hy, Option.getD_some, List.cons_append, ← List.append_assoc, ← List.append_assoc]
  exact List.perm_middle.symm
theorem cntL_perm {a b : List (List Mark)} (h : a.Perm b) (x : Mark) : cntL a x = cntL b x := (h.map _).sum_nat
theorem cntL_le : ∀ (ls : List (List Mark)) (x : Mark), (∀ l ∈ ls, l.length ≤ 4) → cntL ls x ≤ 4 * ls.length
  | [], _, _ => Nat.le_refl _
  | l :: ls, x, h => by
    have h1 := cntL_le ls x (fun l hl => h l (by simp [hl]))
    have h2 := h l (by simp)
    have h3 : l.countP (fun y => decide (y = x)) ≤ l.length := List.countP_le_length
    rw [cntL_cons, List.length_cons]; omega
theorem nodup_sub {α : Type} [DecidableEq α] : ∀ {l l' : List α}, l.Nodup → (∀ x ∈ l, x ∈ l') → l.length ≤ l'.length
  | [], _, _, _ => Nat.zero_le _
  | a :: l, l', h, hs => by
    rw [List.nodup_cons] at h
    have h1 : a ∈ l' := hs a (by simp)
    have h2 := nodup_sub (l' := l'.erase a) h.2 (fun x hx => (List.mem_erase_of_ne (fun e => h.1 (by rw [← e]; exact hx))).2 (hs x (by simp [hx])))
    rw [List.length_erase_of_mem h1] at h2
    have := List.length_pos_of_mem h1
    rw [List.length_cons]; omega
theorem tal_step {m : MSt} {dl : List (List Mark)} {lf : List Int} {y : List Mark} {k : Int} {i : Nat} {e : Mark} {D : List (Mark × Int)} (him : MInv m) (hle : m.crew.nodes.length ≤ maxL) (hnd : (m.list.map (·.1)).Nodup)
    (hdl : (dl ++ lf.map (fun k => (mget m.list k).getD [])).Perm (m.list.map (·.2))) (hT : ∀ x, mget D x = tal (y.take i :: dl) x) (hy : mget m.list k = some y) (he : y[i]? = some e) :
    ∀ x, mget (mput D e (IntKind.wrap .i64 ((mget D e).getD 0 + 1))) x = tal (y.take (i + 1) :: dl) x := by
  intro x
  have hb : ∀ l ∈ dl, l.length ≤ 4 := fun l hl => by
    have : l ∈ m.list.map (·.2) := hdl.mem_iff.1 (by simp [hl])
    obtain ⟨p, hp, rfl⟩ := List.mem_map.1 this
    exact (him p hp).1
  have hy4 : y.length ≤ 4 := (him _ (mget_mem hy)).1
  have hn : dl.length ≤ maxL := by
    have h1 := hdl.length_eq
    have h2 := nodup_sub hnd (l' := m.crew.nodes) (fun x hx => by obtain ⟨p, hp, rfl⟩ := List.mem_map.1 hx; exact (him p hp).2)
    simp only [List.length_append, List.length_map] at h1 h2
    omega
  have hc := cntL_le (y.take i :: dl) e (fun l hl => by
    rcases List.mem_cons.1 hl with rfl | hl
    · rw [List.length_take]; omega
    · exact hb l hl)
  rw [List.length_cons] at hc
  have hv : (mget D e).getD 0 = ((cntL (y.take i :: dl) e : Nat) : Int) := by
    rw [hT e]; unfold tal
    cases hz : cntL (y.take i :: dl) e == 0 with
    | true => simp at hz; simp [hz]
    | false => simp
  have hw : IntKind.wrap .i64 ((mget D e).getD 0 + 1) = ((cntL (y.take i :: dl) e + 1 : Nat) : Int) := by
    rw [hv]; unfold maxL at hn
    have q := wrap_i64_nat (a := cntL (y.take i :: dl) e + 1) (by omega)
    rw [Int.natCast_add] at q ⊢; exact q
  have ht : ∀ x, cntL (y.take (i + 1) :: dl) x = cntL (y.take i :: dl) x + (if e = x then 1 else 0) := by
    intro x
    rw [cntL_cons, cntL_cons, List.take_add_one, he, List.countP_append]
    by_cases hx : e = x <;> simp [hx] <;> omega
  rw [mget_mput, hw]
  unfold tal
  rw [ht x]
  by_cases hx : e = x
  · subst hx; simp
  · rw [if_neg hx, hT x]; simp [tal, hx]
theorem him_len {m : MSt} (him : MInv m) {k : Int} {y : List Mark} (hy : mget m.list k = some y) : y.length ≤ 4 := (him _ (mget_mem hy)).1
theorem bestG_snoc {α : Type} (may : α → Bool) (cmp : α → α → Int) (l : List α) (x : α) : ∀ (o : α) (k : Bool), bestG may cmp (l ++ [x]) o k = (bif may x && (!(bestG may cmp l o k).2 || decide (0 < cmp x (bestG may cmp l o k).1)) then (x, true) else bestG may cmp l o k) := by
  induction l with
  | nil => intro o k; simp only [List.nil_append, bestG]; rfl
  | cons y r ih =>
    intro o k
    simp only [List.cons_append, bestG]
    by_cases hc : (may y && (!k || decide (0 < cmp y o))) = true
    · simp only [hc, cond_true, ih]
    · have hc : (may y && (!k || decide (0 < cmp y o))) = false := by simpa using hc
      simp only [hc, cond_false, ih]
theorem may_of {l : List (Int × List Mark)} {dl : List (List Mark)} {lf : List Int} {D : List (Mark × Int)} {x : Mark} {n : Int} (hdl : (dl ++ lf.map (fun k => (mget l k).getD [])).Perm (l.map (·.2))) (hE : lf = []) (hT : ∀ x, mget D x = tal dl x) (many : Int) (hn : mget D x = some n) :
    mayG (l.map (·.2)) many x = decide (many ≤ n) := by
  subst hE
  rw [List.map_nil, List.append_nil] at hdl
  have h1 := hT x
  rw [hn] at h1
  unfold tal at h1
  cases hz : cntL dl x == 0 with
  | true => rw [hz] at h1; cases h1
  | false =>
    rw [hz] at h1
    simp only [cond_false, Option.some.injEq] at h1
    unfold mayG
    rw [← cntL_perm hdl x, ← h1, Bool.eq_iff_iff]
    simp
theorem cntL_pos {ls : List (List Mark)} {x : Mark} : cntL ls x ≠ 0 ↔ x ∈ ls.flatten := by
  induction ls with
  | nil => simp [cntL_nil]
  | cons l ls ih =>
    rw [cntL_cons, List.flatten_cons, List.mem_append, ← ih]
    have : l.countP (fun y => decide (y = x)) ≠ 0 ↔ x ∈ l := by
      rw [← Nat.pos_iff_ne_zero, List.countP_pos_iff]
      simp
    rw [← this]; omega
theorem gR_same {l l' : List Mark} {may : Mark → Bool} (hp : ∀ x, x ∈ l ↔ x ∈ l') : bestG may cmpM l default false = bestG may cmpM l' default false := by
  refine bestG_perm (fun a => ?_) (fun a b c => ?_) (fun a b => ?_) (fun a b _ _ => ?_) hp _
  · simp only [cmpM, better2]; omega
  · simp only [cmpM, better2]; omega
  · simp only [cmpM, better2]; omega
  · simp only [cmpM, better2]
    intro h1 h2
    have e1 : a.seq = b.seq := by omega
    have e2 : valB a.dig.l = valB b.dig.l := by omega
    cases a; cases b
    simp only [] at e1 e2
    rw [e1, dig_eq e2]
theorem hS_step {α : Type} {dn lf la lb : List α} {k : α} {P : α → Prop} (h : ∀ x, (x ∈ dn ∨ x ∈ lf) ↔ P x) (e : lf = la ++ k :: lb) : ∀ x, (x ∈ dn ++ [k] ∨ x ∈ la ++ lb) ↔ P x := by
  intro x
  rw [← h x, e]
  simp only [List.mem_append, List.mem_cons, List.not_mem_nil, or_false]
  constructor
  · rintro ((h | h) | (h | h))
    · exact .inl h
    · exact .inr (.inr (.inl h))
    · exact .inr (.inl h)
    · exact .inr (.inr (.inr h))
  · rintro (h | (h | (h | h)))
    · exact .inl (.inl h)
    · exact .inr (.inl h)
    · exact .inl (.inr h)
    · exact .inr (.inr h)
theorem g_end {l : List (Int × List Mark)} {dl : List (List Mark)} {lf : List Int} {lf2 dn : List Mark} {D : List (Mark × Int)} (hdl : (dl ++ lf.map (fun k => (mget l k).getD [])).Perm (l.map (·.2))) (hE : lf = []) (hT : ∀ x, mget D x = tal dl x)
    (hS : ∀ x, (x ∈ dn ∨ x ∈ lf2) ↔ x ∈ D.map (·.1)) (h2 : lf2 = []) (many : Int) : gR (l.map (·.2)) many = bestG (mayG (l.map (·.2)) many) cmpM dn default false := by
  subst hE; subst h2
  rw [List.map_nil, List.append_nil] at hdl
  refine gR_same (fun x => ?_)
  have h1 := hS x
  simp only [List.not_mem_nil, or_false] at h1
  rw [h1, ← mget_isSome, ← cntL_pos, ← cntL_perm hdl]
  constructor
  · intro hc; refine ⟨((cntL dl x : Nat) : Int), ?_⟩; rw [hT x]
    have q : (cntL dl x == 0) = false := by simpa using hc
    simp [tal, q]
  · rintro ⟨n, hn⟩ hc; rw [hT x] at hn; simp [tal, hc] at hn
theorem mk86 : mapKV Try.prog 86 28 3 = true := by kernel_rfl
theorem co60 : callOk Try.prog 60 = true := by kernel_rfl
theorem co59 : callOk Try.prog 59 = true := by kernel_rfl
theorem zv3 : (Try.prog.info? 3).bind (fun i => i.zero) = some (.int .i64 0) := by kernel_rfl
theorem fo64_0 : fieldOk Try.prog 64 0 0 = true := by kernel_rfl
theorem co47 : callOk Try.prog 47 = true := by kernel_rfl
theorem co46 : callOk Try.prog 46 = true := by kernel_rfl
theorem co48 : callOk Try.prog 48 = true := by kernel_rfl
theorem greatest_ret (G0 : Gh) (w0 : World) (hw : Holds G0 w0) (bm lm : Nat) (om qm : Obj) (m : MSt) (hbm : HasO G0 bm om) (hlm : HasO G0 lm qm) (hm : MarksO G0 om qm lm m) (many : Int) :
    RetS Try.prog 46 #[.pointer (some ⟨bm, 0, none⟩), .int .i64 many] G0 w0 (.tuple #[(.agg ((gR (lists m) many).1).cells.toArray), (.bool ((gR (lists m) many).2))]) := by
  have hC := Cx.refl hw
  have hB : Bxs G0 w0 w0.heap.size [] := Bxs.nil _ _ _
  obtain ⟨v1, e2, hs3, hM4, hi5⟩ := id hm
  have him := hi5
  obtain ⟨A6, cap7, rfl⟩ := hs3.form
  have hF8 : RowG G0 bm 0 ((.int .i64 m.crew.faults) :: ((.slice A6 m.crew.nodes.length cap7) :: ((.int .i64 m.low.seq) :: (m.low.dig.cells ++ ((.map (some lm)) :: []))))) := HasO.row (T := 64) (by rw [← e2]; exact hbm)
  refine callsOf Try.func46 rfl _ Try.ntmps46 rfl _ (argsCons (argsCons argsNil (t := 0) rfl) (t := 1) rfl) ?_; intro Q0 hQ
  refine wcSeq ?_
  refine wcRegion ?_
  refine wlAlloc hC hB zero28 rfl ?_; intro b9 w hk hC hB
  refine wlVal (opAssign rfl) rfl ?_
  refine wlThen ?_
  refine wcSeq ?_
  refine wcSeq ?_
  refine wcRegion ?_
  refine wlVal (opMove rfl) rfl ?_
  refine wlCallS hC hB rfl co32 rfl rfl (none_ret _ _ hC.holds bm lm _ _ m hbm hlm hm) ?_; intro w hk hC hB
  refine wlThen ?_
  refine wcCondF rfl ?_
  refine wcSkip ?_
  refine wcOf ?_
  refine wcSeq ?_
  refine wcRegion ?_
  refine wlMakeMapH hC hB rfl ?_; intro b10 w hC hB
  have hM11 : MpO kM G0 (.map #[] 0) ([] : List (Mark × Int)) := MpO.nil_ _ _
  replace hC : Cx w0 G0 G0 w ⟨[], [(b10, .map #[] 0)]⟩ := hC
  replace hB : Bxs G0 w w0.heap.size [(b9, 28, ((.int .i64 0) :: (Dig.zero.cells ++ [])))] ⟨[], [(b10, .map #[] 0)]⟩ := hB
  refine wlVal (opAssign rfl) rfl ?_
  refine wlThen ?_
  refine wcSeq ?_
  refine wcSeq ?_
  refine wcRegion ?_
  refine wlVal (opMove rfl) rfl ?_
  refine wlVal (opNilCheck rfl) rfl ?_
  refine wlVal (opFieldAddr rfl fo64_2) rfl ?_
  refine wlVal (opLoadOne (v := (.map (some lm))) rfl (RowG.cell hC.holds hF8 (j := 35) (by simp [Mark.cells, Do.cells, Word.cells])) one62) rfl ?_
  refine wlRange hM4 (hlm.at_ hC.holds) hC hB rfl mk62 rfl ?_; intro r12 it13 w hC hB hI14
  replace hC : Cx w0 G0 G0 w ⟨[], [(r12, it13), (b10, .map #[] 0)]⟩ := hC
  replace hB : Bxs G0 w w0.heap.size [(b9, 28, ((.int .i64 0) :: (Dig.zero.cells ++ [])))] ⟨[], [(r12, it13), (b10, .map #[] 0)]⟩ := hB
  refine wlThen ?_
  refine wcBlock ?_
  refine WC.sub (wrInd (ι := (List (List Mark)) × Obj × (List Int) × Obj × (List (Mark × Int))) (fun i => match i with | (dl, it0, lf0, q0, D0) => lf0.length) (fun i G w => match i with | (dl, it0, lf0, q0, D0) => Cx w0 G0 G w ⟨[], [(r12, it0), (b10, q0)]⟩ ∧ Bxs G w w0.heap.size [(b9, 28, ((.int .i64 0) :: (Dig.zero.cells ++ [])))] ⟨[], [(r12, it0), (b10, q0)]⟩ ∧ Sl G (.slice A6 m.crew.nodes.length cap7) m.crew.nodes ∧ MpO kI G qm m.list ∧ HasO G bm om ∧ HasO G lm qm ∧ MarksO G om qm lm m ∧ RowG G bm 0 ((.int .i64 m.crew.faults) :: ((.slice A6 m.crew.nodes.length cap7) :: ((.int .i64 m.low.seq) :: (m.low.dig.cells ++ ((.map (some lm)) :: []))))) ∧ MpO kM G q0 D0 ∧ ItO kI qm it0 lm lf0 ∧ (m.list.map (·.1)).Nodup ∧ (dl ++ lf0.map (fun k => (mget m.list k).getD [])).Perm (m.list.map (·.2)) ∧ (∀ x, mget D0 x = tal dl x)) (fun i => match i with | (dl, it0, lf0, q0, D0) => (((((Env.nil.put 1 (.int .i64 many)).put 4 (.pointer (some ⟨b9, 0, none⟩))).put 5 (.bool false)).put 6 (.map (some b10))).put 21 (.pointer (some ⟨r12, 0, none⟩)))) ?_ ([], it13, (List.map (fun x => x.1) m.list), (.map #[] 0), []) _ _ ⟨hC, hB, hs3, hM4, hbm, hlm, hm, hF8, hM11, hI14, hM4.nodup, (by rw [List.nil_append, keys_vals hM4.nodup]), (by intro x; rfl)⟩) (fun _ ha => (((((ha.start.cons ha (t := 1) rfl).cons ha (t := 4) rfl).cons ha (t := 5) rfl).cons ha (t := 6) rfl).cons ha (t := 21) rfl))
  rintro ⟨dl, it0, lf0, q0, D0⟩ G w N0 IH0 ⟨hC, hB, hs3, hM4, hbm, hlm, hm, hF8, hMq0, hIit0, hnd, hdl, hT⟩
  show WC _ _ _ _ (((((Env.nil.put 1 (.int .i64 many)).put 4 (.pointer (some ⟨b9, 0, none⟩))).put 5 (.bool false)).put 6 (.map (some b10))).put 21 (.pointer (some ⟨r12, 0, none⟩))) w
  refine wcSeq ?_
  refine wcRegion ?_
  rcases ItO.next (P := Try.prog) (ty := _) hM4 hIit0 (hC.heldAt 0 rfl) (hlm.at_ hC.holds) with ⟨hle15, hr16⟩ | ⟨la17, k18, lb19, v20, it21, w22, hle15, hw23, hr16, hI24, hc25⟩
  · skip
    refine wlNext0 rfl hr16 rfl ?_
    refine wlVal (opExtract rfl rfl) rfl ?_
    refine wlThen ?_
    refine wcSeq ?_
    refine wcCondF rfl ?_
    refine wcExit ?_
    refine wcOf ?_
    refine wcSeq ?_
    refine wcSeq ?_
    refine wcRegion ?_
    refine wlVal (opMove rfl) rfl ?_
    refine wlRange hMq0 (hC.heldAt 1 rfl) hC hB rfl mk86 rfl ?_; intro r26 it27 w hC hB hI28
    replace hC : Cx w0 G0 G w ⟨[], [(r26, it27), (r12, it0), (b10, q0)]⟩ := hC
    replace hB : Bxs G w w0.heap.size [(b9, 28, ((.int .i64 0) :: (Dig.zero.cells ++ [])))] ⟨[], [(r26, it27), (r12, it0), (b10, q0)]⟩ := hB
    refine wlThen ?_
    refine wcBlock ?_
    refine WC.sub (wrInd (ι := Mark × Bool × (List Mark) × Obj × (List Mark)) (fun i => match i with | (o, ok, dn, it2, lf2) => lf2.length) (fun i G w => match i with | (o, ok, dn, it2, lf2) => Cx w0 G0 G w ⟨[], [(r26, it2), (r12, it0), (b10, q0)]⟩ ∧ Bxs G w w0.heap.size [(b9, 28, o.cells)] ⟨[], [(r26, it2), (r12, it0), (b10, q0)]⟩ ∧ Sl G (.slice A6 m.crew.nodes.length cap7) m.crew.nodes ∧ MpO kI G qm m.list ∧ HasO G bm om ∧ HasO G lm qm ∧ MarksO G om qm lm m ∧ MpO kM G q0 D0 ∧ ItO kI qm it0 lm lf0 ∧ RowG G bm 0 ((.int .i64 m.crew.faults) :: ((.slice A6 m.crew.nodes.length cap7) :: ((.int .i64 m.low.seq) :: (m.low.dig.cells ++ ((.map (some lm)) :: []))))) ∧ ItO kM q0 it2 b10 lf2 ∧ lf0 = [] ∧ (∀ x, (x ∈ dn ∨ x ∈ lf2) ↔ x ∈ D0.map (·.1)) ∧ bestG (mayG (lists m) many) cmpM dn default false = (o, ok)) (fun i => match i with | (o, ok, dn, it2, lf2) => ((((Env.nil.put 1 (.int .i64 many)).put 4 (.pointer (some ⟨b9, 0, none⟩))).put 5 (.bool ok)).put 40 (.pointer (some ⟨r26, 0, none⟩)))) ?_ ((Mark.mk 0 Dig.zero), false, [], it27, (List.map (fun x => x.1) D0)) _ _ ⟨hC, hB, hs3, hM4, hbm, hlm, hm, hMq0, hIit0, hF8, hI28, hle15, (by intro x; simp), rfl⟩) (fun _ ha => ((((ha.start.cons ha (t := 1) rfl).cons ha (t := 4) rfl).cons ha (t := 5) rfl).cons ha (t := 40) rfl))
    rintro ⟨o, ok, dn, it2, lf2⟩ G w N2 IH2 ⟨hC, hB, hs3, hM4, hbm, hlm, hm, hMq0, hIit0, hF8, hIit2, hE, hS, hG⟩
    show WC _ _ _ _ ((((Env.nil.put 1 (.int .i64 many)).put 4 (.pointer (some ⟨b9, 0, none⟩))).put 5 (.bool ok)).put 40 (.pointer (some ⟨r26, 0, none⟩))) w
    refine wcSeq ?_
    refine wcRegion ?_
    rcases ItO.next (P := Try.prog) (ty := _) hMq0 hIit2 (hC.heldAt 0 rfl) (hC.heldAt 2 rfl) with ⟨hle29, hr30⟩ | ⟨la31, k32, lb33, v34, it35, w36, hle29, hw37, hr30, hI38, hc39⟩
    · skip
      refine wlNext0 rfl hr30 rfl ?_
      refine wlVal (opExtract rfl rfl) rfl ?_
      refine wlThen ?_
      refine wcSeq ?_
      refine wcCondF rfl ?_
      refine wcExit ?_
      refine wcOf ?_
      refine wcSeq ?_
      refine wcRegion ?_
      refine wlVal (opLoadRow (cs := o.cells) rfl (hB.range (i := 0) (m := 33) rfl (by simp [Mark.cells, Do.cells, Word.cells])) row28 (by simp [Mark.cells, Do.cells, Word.cells])) rfl ?_
      refine wlVal (opMove rfl) rfl ?_
      refine wlStore 0 (vs := o.cells) (cs := o.cells) (cs' := o.cells) hC hB rfl rfl rfl sz28 rfl (by simp [Mark.cells, Do.cells, Word.cells]) (by simp [Mark.cells, Do.cells, Word.cells, Value.oneCell']) (by simp [Mark.cells, Do.cells, Word.cells]) (by simp [Mark.cells, Do.cells, Word.cells]) rfl ?_; intro w hC hB
      refine wlVal (opAssign rfl) rfl ?_
      refine wlThen ?_
      refine wcRet ?_
      exact fun ac_ ha => hQ _ _ _ (results2 ha rfl ⟨_, _, o.cells, rfl, row28, (by simp [Mark.cells, Do.cells, Word.cells]), hB.range (i := 0) (m := 33) rfl (by simp [Mark.cells, Do.cells, Word.cells]), rfl⟩ rfl) ha.df (endS hC hw (by have q : gR (lists m) many = _ := (g_end hdl hE hT hS hle29 many).trans hG; rw [q]))
    · skip
      refine wlNext1 hC hB (i := 0) rfl rfl hw37 hr30 rfl ?_; intro w hC hB
      replace hC : Cx w0 G0 G w ⟨[], [(r26, it35), (r12, it0), (b10, q0)]⟩ := hC
      replace hB : Bxs G w w0.heap.size [(b9, 28, o.cells)] ⟨[], [(r26, it35), (r12, it0), (b10, q0)]⟩ := hB
      refine wlVal (opExtract rfl rfl) rfl ?_
      refine wlThen ?_
      refine wcSeq ?_
      refine wcCondT rfl ?_
      refine wcSkip ?_
      refine wcOf ?_
      refine wcBlock ?_
      refine wcSeq ?_
      refine wcRegion ?_
      obtain ⟨v40, y41, hy42, hv43, hr44⟩ := hc39.entry keyL28.inj hMq0
      obtain rfl := isI hv43
      refine wlVal (opEntryH rfl (hr44 _ _ (hC.heldAt 0 rfl) (hC.heldAt 2 rfl))) rfl ?_
      refine wlVal (opExtract rfl rfl) rfl ?_
      refine wlVal (opExtract rfl rfl) rfl ?_
      refine wlAlloc hC hB zero28 rfl ?_; intro b45 w hk hC hB
      refine wlStore 0 (vs := k32.cells) (cs := ((.int .i64 0) :: (Dig.zero.cells ++ []))) (cs' := k32.cells) hC hB rfl rfl rfl sz28 rfl (by simp [Mark.cells, Do.cells, Word.cells]) (by simp [Mark.cells, Do.cells, Word.cells, Value.oneCell']) (by simp [Mark.cells, Do.cells, Word.cells]) (by simp [Mark.cells, Do.cells, Word.cells]) rfl ?_; intro w hC hB
      refine wlVal (opAssign rfl) rfl ?_
      refine wlThen ?_
      refine wcSeq ?_
      cases h46 : decide (many ≤ y41)
      · skip
        refine wcDraw fmix (by kernel_rfl) (by kernel_rfl) (vAt [(fun _ v_ => v_ = (.int .i64 y41)), (fun _ v_ => v_ = (.int .i64 many)), (fun _ v_ => v_ = (.bool false)), (fun _ v_ => v_ = (.bool false)), (fun _ v_ => v_ = undef), (fun _ v_ => v_ = undef), (fun _ v_ => v_ = undef), (fun _ v_ => v_ = undef), (fun _ v_ => v_ = undef), (fun _ v_ => v_ = undef), (fun _ v_ => v_ = undef), (fun _ v_ => v_ = undef), (fun _ v_ => v_ = undef), (fun _ v_ => v_ = undef), (fun _ v_ => v_ = undef), (fun _ v_ => v_ = undef), (fun _ v_ => v_ = undef), (fun _ v_ => v_ = undef), (fun _ v_ => v_ = undef), (fun _ v_ => v_ = undef), (fun _ v_ => v_ = undef), (fun _ v_ => v_ = (.bool false))]) (fun _ _ G' w => Cx w0 G0 G' w ⟨[], [(r26, it35), (r12, it0), (b10, q0)]⟩ ∧ Bxs G' w w0.heap.size [(b45, 28, k32.cells), (b9, 28, o.cells)] ⟨[], [(r26, it35), (r12, it0), (b10, q0)]⟩ ∧ GLe G G') G (vAt_mono ⟨fun _ _ _ _ h => h, fun _ _ _ _ h => h, fun _ _ _ _ h => h, fun _ _ _ _ h => h, fun _ _ _ _ h => h, fun _ _ _ _ h => h, fun _ _ _ _ h => h, fun _ _ _ _ h => h, fun _ _ _ _ h => h, fun _ _ _ _ h => h, fun _ _ _ _ h => h, fun _ _ _ _ h => h, fun _ _ _ _ h => h, fun _ _ _ _ h => h, fun _ _ _ _ h => h, fun _ _ _ _ h => h, fun _ _ _ _ h => h, fun _ _ _ _ h => h, fun _ _ _ _ h => h, fun _ _ _ _ h => h, fun _ _ _ _ h => h, fun _ _ _ _ h => h, trivial⟩) (fun _ _ => ⟨hC.drew, hB.drew, fun _ _ h => h⟩) ?_ ?_
        · refine dsNone (j := 1) rfl ?_ ?_
          · intro done G w ac_ hd hp hn ⟨hC, hB, hg⟩ hM
            have f12 : ac_.tmps[12]? = some (.int .i64 y41) := hM.old0 rfl rfl
            have hF : Fr 71 ac_ (Env.nil.put 12 (.int .i64 y41)) := (hM.fr.add f12)
            exact OpVal.draw hF (opMove rfl) ⟨G, fun _ _ h => h, ⟨hC, hB, hg⟩, rfl⟩
          refine dsNone (j := 2) rfl ?_ ?_
          · intro done G w ac_ hd hp hn ⟨hC, hB, hg⟩ hM
            have f1 : ac_.tmps[1]? = some (.int .i64 many) := hM.old0 rfl rfl
            have hF : Fr 71 ac_ (Env.nil.put 1 (.int .i64 many)) := (hM.fr.add f1)
            exact OpVal.draw hF (opMove rfl) ⟨G, fun _ _ h => h, ⟨hC, hB, hg⟩, rfl⟩
          refine dsNone (j := 3) rfl ?_ ?_
          · intro done G w ac_ hd hp hn ⟨hC, hB, hg⟩ hM
            have f46 : ac_.tmps[46]? = some (.int .i64 y41) := hM.eqv 0 rfl (hp 0 rfl) rfl rfl
            have f47 : ac_.tmps[47]? = some (.int .i64 many) := hM.eqv 1 rfl (hp 1 rfl) rfl rfl
            have hF : Fr 71 ac_ ((Env.nil.put 46 (.int .i64 y41)).put 47 (.int .i64 many)) := ((hM.fr.add f46).add f47)
            exact OpVal.draw hF (OpVal.cast (opGeq rfl rfl) (congrArg Value.bool h46)) ⟨G, fun _ _ h => h, ⟨hC, hB, hg⟩, rfl⟩
          refine dsNone (j := 4) rfl ?_ ?_
          · intro done G w ac_ hd hp hn ⟨hC, hB, hg⟩ hM
            have f48 : ac_.tmps[48]? = some (.bool false) := hM.eqv 2 rfl (hp 2 rfl) rfl rfl
            have hF : Fr 71 ac_ (Env.nil.put 48 (.bool false)) := (hM.fr.add f48)
            exact OpVal.draw hF (opMove rfl) ⟨G, fun _ _ h => h, ⟨hC, hB, hg⟩, rfl⟩
          refine dsOff (j := 5) (b' := false) rfl rfl rfl ?_ ?_
          · intro done G w ac_ hd hp hn ⟨hC, hB, hg⟩ hM
            have f49 : ac_.tmps[49]? = some (.bool false) := hM.eqv 3 rfl (hp 3 rfl) rfl rfl
            exact ⟨f49, ⟨hC, hB, hg⟩, rfl⟩
          refine dsOff (j := 6) (b' := false) rfl rfl rfl ?_ ?_
          · intro done G w ac_ hd hp hn ⟨hC, hB, hg⟩ hM
            have f49 : ac_.tmps[49]? = some (.bool false) := hM.eqv 3 rfl (hp 3 rfl) rfl rfl
            exact ⟨f49, ⟨hC, hB, hg⟩, rfl⟩
          refine dsOff (j := 7) (b' := false) rfl rfl rfl ?_ ?_
          · intro done G w ac_ hd hp hn ⟨hC, hB, hg⟩ hM
            have f49 : ac_.tmps[49]? = some (.bool false) := hM.eqv 3 rfl (hp 3 rfl) rfl rfl
            exact ⟨f49, ⟨hC, hB, hg⟩, rfl⟩
          refine dsOffU (j := 8) rfl rfl ?_ ?_
          · intro done G w ac_ hd hp hn ⟨hC, hB, hg⟩ hM
            have f52 : ac_.tmps[52]? = some undef := hM.eqv 6 rfl (hp 6 rfl) rfl rfl
            exact ⟨f52, ⟨hC, hB, hg⟩, rfl⟩
          refine dsOffU (j := 9) rfl rfl ?_ ?_
          · intro done G w ac_ hd hp hn ⟨hC, hB, hg⟩ hM
            have f52 : ac_.tmps[52]? = some undef := hM.eqv 6 rfl (hp 6 rfl) rfl rfl
            exact ⟨f52, ⟨hC, hB, hg⟩, rfl⟩
          refine dsOffU (j := 10) rfl rfl ?_ ?_
          · intro done G w ac_ hd hp hn ⟨hC, hB, hg⟩ hM
            have f52 : ac_.tmps[52]? = some undef := hM.eqv 6 rfl (hp 6 rfl) rfl rfl
            exact ⟨f52, ⟨hC, hB, hg⟩, rfl⟩
          refine dsOffU (j := 11) rfl rfl ?_ ?_
          · intro done G w ac_ hd hp hn ⟨hC, hB, hg⟩ hM
            have f52 : ac_.tmps[52]? = some undef := hM.eqv 6 rfl (hp 6 rfl) rfl rfl
            exact ⟨f52, ⟨hC, hB, hg⟩, rfl⟩
          refine dsOffU (j := 12) rfl rfl ?_ ?_
          · intro done G w ac_ hd hp hn ⟨hC, hB, hg⟩ hM
            have f52 : ac_.tmps[52]? = some undef := hM.eqv 6 rfl (hp 6 rfl) rfl rfl
            exact ⟨f52, ⟨hC, hB, hg⟩, rfl⟩
          refine dsOffU (j := 13) rfl rfl ?_ ?_
          · intro done G w ac_ hd hp hn ⟨hC, hB, hg⟩ hM
            have f52 : ac_.tmps[52]? = some undef := hM.eqv 6 rfl (hp 6 rfl) rfl rfl
            exact ⟨f52, ⟨hC, hB, hg⟩, rfl⟩
          refine dsOffU (j := 14) rfl rfl ?_ ?_
          · intro done G w ac_ hd hp hn ⟨hC, hB, hg⟩ hM
            have f52 : ac_.tmps[52]? = some undef := hM.eqv 6 rfl (hp 6 rfl) rfl rfl
            exact ⟨f52, ⟨hC, hB, hg⟩, rfl⟩
          refine dsOffU (j := 15) rfl rfl ?_ ?_
          · intro done G w ac_ hd hp hn ⟨hC, hB, hg⟩ hM
            have f52 : ac_.tmps[52]? = some undef := hM.eqv 6 rfl (hp 6 rfl) rfl rfl
            exact ⟨f52, ⟨hC, hB, hg⟩, rfl⟩
          refine dsOffU (j := 16) rfl rfl ?_ ?_
          · intro done G w ac_ hd hp hn ⟨hC, hB, hg⟩ hM
            have f52 : ac_.tmps[52]? = some undef := hM.eqv 6 rfl (hp 6 rfl) rfl rfl
            exact ⟨f52, ⟨hC, hB, hg⟩, rfl⟩
          refine dsOffU (j := 17) rfl rfl ?_ ?_
          · intro done G w ac_ hd hp hn ⟨hC, hB, hg⟩ hM
            have f52 : ac_.tmps[52]? = some undef := hM.eqv 6 rfl (hp 6 rfl) rfl rfl
            exact ⟨f52, ⟨hC, hB, hg⟩, rfl⟩
          refine dsOffU (j := 18) rfl rfl ?_ ?_
          · intro done G w ac_ hd hp hn ⟨hC, hB, hg⟩ hM
            have f52 : ac_.tmps[52]? = some undef := hM.eqv 6 rfl (hp 6 rfl) rfl rfl
            exact ⟨f52, ⟨hC, hB, hg⟩, rfl⟩
          refine dsOffU (j := 19) rfl rfl ?_ ?_
          · intro done G w ac_ hd hp hn ⟨hC, hB, hg⟩ hM
            have f52 : ac_.tmps[52]? = some undef := hM.eqv 6 rfl (hp 6 rfl) rfl rfl
            exact ⟨f52, ⟨hC, hB, hg⟩, rfl⟩
          refine dsOffU (j := 20) rfl rfl ?_ ?_
          · intro done G w ac_ hd hp hn ⟨hC, hB, hg⟩ hM
            have f52 : ac_.tmps[52]? = some undef := hM.eqv 6 rfl (hp 6 rfl) rfl rfl
            exact ⟨f52, ⟨hC, hB, hg⟩, rfl⟩
          refine dsOff (j := 21) (b' := false) rfl rfl rfl ?_ ?_
          · intro done G w ac_ hd hp hn ⟨hC, hB, hg⟩ hM
            have f49 : ac_.tmps[49]? = some (.bool false) := hM.eqv 3 rfl (hp 3 rfl) rfl rfl
            exact ⟨f49, ⟨hC, hB, hg⟩, rfl⟩
          refine dsNone (j := 22) rfl ?_ ?_
          · intro done G w ac_ hd hp hn ⟨hC, hB, hg⟩ hM
            have f49 : ac_.tmps[49]? = some (.bool false) := hM.eqv 3 rfl (hp 3 rfl) rfl rfl
            have f66 : ac_.tmps[66]? = some undef := hM.eqv 20 rfl (hp 20 rfl) rfl rfl
            have hF : Fr 71 ac_ ((Env.nil.put 49 (.bool false)).put 66 undef) := ((hM.fr.add f49).add f66)
            exact OpVal.draw hF (opPickF rfl rfl) ⟨G, fun _ _ h => h, ⟨hC, hB, hg⟩, rfl⟩
          exact dsNil
        · intro done G w ac_ hall ⟨hC, hB, hg⟩ hM
          replace hs3 := hs3.mono hg
          replace hM4 := hM4.mono hg
          replace hbm := hbm.mono hg
          replace hlm := hlm.mono hg
          replace hm := hm.mono hg
          replace hMq0 := hMq0.mono hg
          replace hIit0 := hIit0.mono hg
          replace hI38 := hI38.mono hg
          replace hF8 := hF8.mono hg
          have f1 : ac_.tmps[1]? = some (.int .i64 many) := hM.old0 rfl rfl
          have f4 : ac_.tmps[4]? = some (.pointer (some ⟨b9, 0, none⟩)) := hM.old0 rfl rfl
          have f5 : ac_.tmps[5]? = some (.bool ok) := hM.old0 rfl rfl
          have f11 : ac_.tmps[11]? = some (.pointer (some ⟨b45, 0, none⟩)) := hM.old0 rfl rfl
          have f40 : ac_.tmps[40]? = some (.pointer (some ⟨r26, 0, none⟩)) := hM.old0 rfl rfl
          have f67 : ac_.tmps[67]? = some (.bool false) := hM.eqv 21 rfl (hall 21 (by decide)) rfl rfl
          refine ⟨((((((Env.nil.put 1 (.int .i64 many)).put 4 (.pointer (some ⟨b9, 0, none⟩))).put 5 (.bool ok)).put 11 (.pointer (some ⟨b45, 0, none⟩))).put 40 (.pointer (some ⟨r26, 0, none⟩))).put 67 (.bool false)), ((((((hM.fr.add f1).add f4).add f5).add f11).add f40).add f67), ?_⟩
          clear hM hall
          refine wcOf ?_
          refine wcCondF rfl ?_
          refine wcSkip ?_
          refine wrOf ?_
          exact (IH2 (o, ok, (dn ++ [k32]), it35, (la31 ++ lb33)) _ _ ⟨hC, hB.tail, hs3, hM4, hbm, hlm, hm, hMq0, hIit0, hF8, hI38, hE, (hS_step hS hle29), (by rw [bestG_snoc, hG]; have q : mayG (lists m) many k32 = _ := may_of hdl hE hT many hy42; simp only [q, cmpM_dec, h46, Bool.not_true, Bool.not_false, Bool.true_or, Bool.false_or, Bool.true_and, Bool.false_and, Bool.and_true, Bool.and_false, Bool.or_true, Bool.or_false, cond_true, cond_false])⟩ (by rw [hle29]; simp)).sub (fun _ ha => ((((ha.start.cons ha (t := 1) rfl).cons ha (t := 4) rfl).cons ha (t := 5) rfl).cons ha (t := 40) rfl))
      · skip
        cases h47 : ok
        · skip
          refine wcDraw fmix (by kernel_rfl) (by kernel_rfl) (vAt [(fun _ v_ => v_ = (.int .i64 y41)), (fun _ v_ => v_ = (.int .i64 many)), (fun _ v_ => v_ = (.bool true)), (fun _ v_ => v_ = (.bool true)), (fun _ v_ => v_ = (.bool false)), (fun _ v_ => v_ = (.bool true)), (fun _ v_ => v_ = (.bool true)), (fun _ v_ => v_ = undef), (fun _ v_ => v_ = undef), (fun _ v_ => v_ = undef), (fun _ v_ => v_ = undef), (fun _ v_ => v_ = undef), (fun _ v_ => v_ = undef), (fun _ v_ => v_ = undef), (fun _ v_ => v_ = undef), (fun _ v_ => v_ = undef), (fun _ v_ => v_ = undef), (fun _ v_ => v_ = undef), (fun _ v_ => v_ = undef), (fun _ v_ => v_ = undef), (fun _ v_ => v_ = (.bool true)), (fun _ v_ => v_ = (.bool true))]) (fun _ _ G' w => Cx w0 G0 G' w ⟨[], [(r26, it35), (r12, it0), (b10, q0)]⟩ ∧ Bxs G' w w0.heap.size [(b45, 28, k32.cells), (b9, 28, o.cells)] ⟨[], [(r26, it35), (r12, it0), (b10, q0)]⟩ ∧ GLe G G') G (vAt_mono ⟨fun _ _ _ _ h => h, fun _ _ _ _ h => h, fun _ _ _ _ h => h, fun _ _ _ _ h => h, fun _ _ _ _ h => h, fun _ _ _ _ h => h, fun _ _ _ _ h => h, fun _ _ _ _ h => h, fun _ _ _ _ h => h, fun _ _ _ _ h => h, fun _ _ _ _ h => h, fun _ _ _ _ h => h, fun _ _ _ _ h => h, fun _ _ _ _ h => h, fun _ _ _ _ h => h, fun _ _ _ _ h => h, fun _ _ _ _ h => h, fun _ _ _ _ h => h, fun _ _ _ _ h => h, fun _ _ _ _ h => h, fun _ _ _ _ h => h, fun _ _ _ _ h => h, trivial⟩) (fun _ _ => ⟨hC.drew, hB.drew, fun _ _ h => h⟩) ?_ ?_
          · refine dsNone (j := 1) rfl ?_ ?_
            · intro done G w ac_ hd hp hn ⟨hC, hB, hg⟩ hM
              have f12 : ac_.tmps[12]? = some (.int .i64 y41) := hM.old0 rfl rfl
              have hF : Fr 71 ac_ (Env.nil.put 12 (.int .i64 y41)) := (hM.fr.add f12)
              exact OpVal.draw hF (opMove rfl) ⟨G, fun _ _ h => h, ⟨hC, hB, hg⟩, rfl⟩
            refine dsNone (j := 2) rfl ?_ ?_
            · intro done G w ac_ hd hp hn ⟨hC, hB, hg⟩ hM
              have f1 : ac_.tmps[1]? = some (.int .i64 many) := hM.old0 rfl rfl
              have hF : Fr 71 ac_ (Env.nil.put 1 (.int .i64 many)) := (hM.fr.add f1)
              exact OpVal.draw hF (opMove rfl) ⟨G, fun _ _ h => h, ⟨hC, hB, hg⟩, rfl⟩
            refine dsNone (j := 3) rfl ?_ ?_
            · intro done G w ac_ hd hp hn ⟨hC, hB, hg⟩ hM
              have f46 : ac_.tmps[46]? = some (.int .i64 y41) := hM.eqv 0 rfl (hp 0 rfl) rfl rfl
              have f47 : ac_.tmps[47]? = some (.int .i64 many) := hM.eqv 1 rfl (hp 1 rfl) rfl rfl
              have hF : Fr 71 ac_ ((Env.nil.put 46 (.int .i64 y41)).put 47 (.int .i64 many)) := ((hM.fr.add f46).add f47)
              exact OpVal.draw hF (OpVal.cast (opGeq rfl rfl) (congrArg Value.bool h46)) ⟨G, fun _ _ h => h, ⟨hC, hB, hg⟩, rfl⟩
            refine dsNone (j := 4) rfl ?_ ?_
            · intro done G w ac_ hd hp hn ⟨hC, hB, hg⟩ hM
              have f48 : ac_.tmps[48]? = some (.bool true) := hM.eqv 2 rfl (hp 2 rfl) rfl rfl
              have hF : Fr 71 ac_ (Env.nil.put 48 (.bool true)) := (hM.fr.add f48)
              exact OpVal.draw hF (opMove rfl) ⟨G, fun _ _ h => h, ⟨hC, hB, hg⟩, rfl⟩
            refine dsOn (j := 5) rfl rfl ?_ ?_
            · intro done G w ac_ hd hp hn ⟨hC, hB, hg⟩ hM
              have f5 : ac_.tmps[5]? = some (.bool false) := hM.old0 rfl rfl
              have f49 : ac_.tmps[49]? = some (.bool true) := hM.eqv 3 rfl (hp 3 rfl) rfl rfl
              refine ⟨f49, ?_⟩
              have hF : Fr 71 ac_ (Env.nil.put 5 (.bool false)) := (hM.fr.add f5)
              exact OpVal.draw hF (opMove rfl) ⟨G, fun _ _ h => h, ⟨hC, hB, hg⟩, rfl⟩
            refine dsOn (j := 6) rfl rfl ?_ ?_
            · intro done G w ac_ hd hp hn ⟨hC, hB, hg⟩ hM
              have f50 : ac_.tmps[50]? = some (.bool false) := hM.eqv 4 rfl (hp 4 rfl) rfl rfl
              have f49 : ac_.tmps[49]? = some (.bool true) := hM.eqv 3 rfl (hp 3 rfl) rfl rfl
              refine ⟨f49, ?_⟩
              have hF : Fr 71 ac_ (Env.nil.put 50 (.bool false)) := (hM.fr.add f50)
              exact OpVal.draw hF (opNot rfl) ⟨G, fun _ _ h => h, ⟨hC, hB, hg⟩, rfl⟩
            refine dsOn (j := 7) rfl rfl ?_ ?_
            · intro done G w ac_ hd hp hn ⟨hC, hB, hg⟩ hM
              have f51 : ac_.tmps[51]? = some (.bool true) := hM.eqv 5 rfl (hp 5 rfl) rfl rfl
              have f49 : ac_.tmps[49]? = some (.bool true) := hM.eqv 3 rfl (hp 3 rfl) rfl rfl
              refine ⟨f49, ?_⟩
              have hF : Fr 71 ac_ (Env.nil.put 51 (.bool true)) := (hM.fr.add f51)
              exact OpVal.draw hF (opMove rfl) ⟨G, fun _ _ h => h, ⟨hC, hB, hg⟩, rfl⟩
            refine dsOff (j := 8) (b' := true) rfl rfl rfl ?_ ?_
            · intro done G w ac_ hd hp hn ⟨hC, hB, hg⟩ hM
              have f52 : ac_.tmps[52]? = some (.bool true) := hM.eqv 6 rfl (hp 6 rfl) rfl rfl
              exact ⟨f52, ⟨hC, hB, hg⟩, rfl⟩
            refine dsOff (j := 9) (b' := true) rfl rfl rfl ?_ ?_
            · intro done G w ac_ hd hp hn ⟨hC, hB, hg⟩ hM
              have f52 : ac_.tmps[52]? = some (.bool true) := hM.eqv 6 rfl (hp 6 rfl) rfl rfl
              exact ⟨f52, ⟨hC, hB, hg⟩, rfl⟩
            refine dsOff (j := 10) (b' := true) rfl rfl rfl ?_ ?_
            · intro done G w ac_ hd hp hn ⟨hC, hB, hg⟩ hM
              have f52 : ac_.tmps[52]? = some (.bool true) := hM.eqv 6 rfl (hp 6 rfl) rfl rfl
              exact ⟨f52, ⟨hC, hB, hg⟩, rfl⟩
            refine dsOff (j := 11) (b' := true) rfl rfl rfl ?_ ?_
            · intro done G w ac_ hd hp hn ⟨hC, hB, hg⟩ hM
              have f52 : ac_.tmps[52]? = some (.bool true) := hM.eqv 6 rfl (hp 6 rfl) rfl rfl
              exact ⟨f52, ⟨hC, hB, hg⟩, rfl⟩
            refine dsOff (j := 12) (b' := true) rfl rfl rfl ?_ ?_
            · intro done G w ac_ hd hp hn ⟨hC, hB, hg⟩ hM
              have f52 : ac_.tmps[52]? = some (.bool true) := hM.eqv 6 rfl (hp 6 rfl) rfl rfl
              exact ⟨f52, ⟨hC, hB, hg⟩, rfl⟩
            refine dsOff (j := 13) (b' := true) rfl rfl rfl ?_ ?_
            · intro done G w ac_ hd hp hn ⟨hC, hB, hg⟩ hM
              have f52 : ac_.tmps[52]? = some (.bool true) := hM.eqv 6 rfl (hp 6 rfl) rfl rfl
              exact ⟨f52, ⟨hC, hB, hg⟩, rfl⟩
            refine dsOff (j := 14) (b' := true) rfl rfl rfl ?_ ?_
            · intro done G w ac_ hd hp hn ⟨hC, hB, hg⟩ hM
              have f52 : ac_.tmps[52]? = some (.bool true) := hM.eqv 6 rfl (hp 6 rfl) rfl rfl
              exact ⟨f52, ⟨hC, hB, hg⟩, rfl⟩
            refine dsOff (j := 15) (b' := true) rfl rfl rfl ?_ ?_
            · intro done G w ac_ hd hp hn ⟨hC, hB, hg⟩ hM
              have f52 : ac_.tmps[52]? = some (.bool true) := hM.eqv 6 rfl (hp 6 rfl) rfl rfl
              exact ⟨f52, ⟨hC, hB, hg⟩, rfl⟩
            refine dsOff (j := 16) (b' := true) rfl rfl rfl ?_ ?_
            · intro done G w ac_ hd hp hn ⟨hC, hB, hg⟩ hM
              have f52 : ac_.tmps[52]? = some (.bool true) := hM.eqv 6 rfl (hp 6 rfl) rfl rfl
              exact ⟨f52, ⟨hC, hB, hg⟩, rfl⟩
            refine dsOff (j := 17) (b' := true) rfl rfl rfl ?_ ?_
            · intro done G w ac_ hd hp hn ⟨hC, hB, hg⟩ hM
              have f52 : ac_.tmps[52]? = some (.bool true) := hM.eqv 6 rfl (hp 6 rfl) rfl rfl
              exact ⟨f52, ⟨hC, hB, hg⟩, rfl⟩
            refine dsOff (j := 18) (b' := true) rfl rfl rfl ?_ ?_
            · intro done G w ac_ hd hp hn ⟨hC, hB, hg⟩ hM
              have f52 : ac_.tmps[52]? = some (.bool true) := hM.eqv 6 rfl (hp 6 rfl) rfl rfl
              exact ⟨f52, ⟨hC, hB, hg⟩, rfl⟩
            refine dsOff (j := 19) (b' := true) rfl rfl rfl ?_ ?_
            · intro done G w ac_ hd hp hn ⟨hC, hB, hg⟩ hM
              have f52 : ac_.tmps[52]? = some (.bool true) := hM.eqv 6 rfl (hp 6 rfl) rfl rfl
              exact ⟨f52, ⟨hC, hB, hg⟩, rfl⟩
            refine dsOff (j := 20) (b' := true) rfl rfl rfl ?_ ?_
            · intro done G w ac_ hd hp hn ⟨hC, hB, hg⟩ hM
              have f52 : ac_.tmps[52]? = some (.bool true) := hM.eqv 6 rfl (hp 6 rfl) rfl rfl
              exact ⟨f52, ⟨hC, hB, hg⟩, rfl⟩
            refine dsOn (j := 21) rfl rfl ?_ ?_
            · intro done G w ac_ hd hp hn ⟨hC, hB, hg⟩ hM
              have f52 : ac_.tmps[52]? = some (.bool true) := hM.eqv 6 rfl (hp 6 rfl) rfl rfl
              have f65 : ac_.tmps[65]? = some undef := hM.eqv 19 rfl (hp 19 rfl) rfl rfl
              have f49 : ac_.tmps[49]? = some (.bool true) := hM.eqv 3 rfl (hp 3 rfl) rfl rfl
              refine ⟨f49, ?_⟩
              have hF : Fr 71 ac_ ((Env.nil.put 52 (.bool true)).put 65 undef) := ((hM.fr.add f52).add f65)
              exact OpVal.draw hF (opPickT rfl rfl) ⟨G, fun _ _ h => h, ⟨hC, hB, hg⟩, rfl⟩
            refine dsNone (j := 22) rfl ?_ ?_
            · intro done G w ac_ hd hp hn ⟨hC, hB, hg⟩ hM
              have f49 : ac_.tmps[49]? = some (.bool true) := hM.eqv 3 rfl (hp 3 rfl) rfl rfl
              have f66 : ac_.tmps[66]? = some (.bool true) := hM.eqv 20 rfl (hp 20 rfl) rfl rfl
              have hF : Fr 71 ac_ ((Env.nil.put 49 (.bool true)).put 66 (.bool true)) := ((hM.fr.add f49).add f66)
              exact OpVal.draw hF (opPickT rfl rfl) ⟨G, fun _ _ h => h, ⟨hC, hB, hg⟩, rfl⟩
            exact dsNil
          · intro done G w ac_ hall ⟨hC, hB, hg⟩ hM
            replace hs3 := hs3.mono hg
            replace hM4 := hM4.mono hg
            replace hbm := hbm.mono hg
            replace hlm := hlm.mono hg
            replace hm := hm.mono hg
            replace hMq0 := hMq0.mono hg
            replace hIit0 := hIit0.mono hg
            replace hI38 := hI38.mono hg
            replace hF8 := hF8.mono hg
            have f1 : ac_.tmps[1]? = some (.int .i64 many) := hM.old0 rfl rfl
            have f4 : ac_.tmps[4]? = some (.pointer (some ⟨b9, 0, none⟩)) := hM.old0 rfl rfl
            have f5 : ac_.tmps[5]? = some (.bool false) := hM.old0 rfl rfl
            have f11 : ac_.tmps[11]? = some (.pointer (some ⟨b45, 0, none⟩)) := hM.old0 rfl rfl
            have f40 : ac_.tmps[40]? = some (.pointer (some ⟨r26, 0, none⟩)) := hM.old0 rfl rfl
            have f67 : ac_.tmps[67]? = some (.bool true) := hM.eqv 21 rfl (hall 21 (by decide)) rfl rfl
            refine ⟨((((((Env.nil.put 1 (.int .i64 many)).put 4 (.pointer (some ⟨b9, 0, none⟩))).put 5 (.bool false)).put 11 (.pointer (some ⟨b45, 0, none⟩))).put 40 (.pointer (some ⟨r26, 0, none⟩))).put 67 (.bool true)), ((((((hM.fr.add f1).add f4).add f5).add f11).add f40).add f67), ?_⟩
            clear hM hall
            refine wcOf ?_
            refine wcCondT rfl ?_
            refine wcRegion ?_
            refine wlVal (opLoadRow (cs := k32.cells) rfl (hB.range (i := 0) (m := 33) rfl (by simp [Mark.cells, Do.cells, Word.cells])) row28 (by simp [Mark.cells, Do.cells, Word.cells])) rfl ?_
            refine wlStore 1 (vs := k32.cells) (cs := o.cells) (cs' := k32.cells) hC hB rfl rfl rfl sz28 rfl (by simp [Mark.cells, Do.cells, Word.cells]) (by simp [Mark.cells, Do.cells, Word.cells, Value.oneCell']) (by simp [Mark.cells, Do.cells, Word.cells]) (by simp [Mark.cells, Do.cells, Word.cells]) rfl ?_; intro w hC hB
            refine wlVal (opAssign rfl) rfl ?_
            refine wlNil ?_
            refine wrOf ?_
            exact (IH2 (k32, true, (dn ++ [k32]), it35, (la31 ++ lb33)) _ _ ⟨hC, hB.tail, hs3, hM4, hbm, hlm, hm, hMq0, hIit0, hF8, hI38, hE, (hS_step hS hle29), (by rw [bestG_snoc, hG]; have q : mayG (lists m) many k32 = _ := may_of hdl hE hT many hy42; simp only [q, cmpM_dec, h46, h47, Bool.not_true, Bool.not_false, Bool.true_or, Bool.false_or, Bool.true_and, Bool.false_and, Bool.and_true, Bool.and_false, Bool.or_true, Bool.or_false, cond_true, cond_false])⟩ (by rw [hle29]; simp)).sub (fun _ ha => ((((ha.start.cons ha (t := 1) rfl).cons ha (t := 4) rfl).cons ha (t := 5) rfl).cons ha (t := 40) rfl))
        · skip
          refine wcDraw fmix (by kernel_rfl) (by kernel_rfl) (vAt [(fun _ v_ => v_ = (.int .i64 y41)), (fun _ v_ => v_ = (.int .i64 many)), (fun _ v_ => v_ = (.bool true)), (fun _ v_ => v_ = (.bool true)), (fun _ v_ => v_ = (.bool true)), (fun _ v_ => v_ = (.bool false)), (fun _ v_ => v_ = (.bool false)), (fun _ v_ => v_ = (.pointer (some ⟨b45, 0, none⟩))), (fun _ v_ => v_ = (.int .i64 k32.seq)), (fun _ v_ => v_ = (.pointer (some ⟨b9, 0, none⟩))), (fun _ v_ => v_ = (.int .i64 o.seq)), (fun _ v_ => v_ = (.int .i64 ((cmpI k32.seq o.seq)))), (fun _ v_ => v_ = (.pointer (some ⟨b9, 1, none⟩))), (fun _ v_ => v_ = (.slice (some ⟨b9, 1, none⟩) 32 32)), (fun _ v_ => v_ = (.pointer (some ⟨b45, 1, none⟩))), (fun _ v_ => v_ = (.slice (some ⟨b45, 1, none⟩) 32 32)), (fun _ v_ => v_ = (.int .i64 ((cmpB o.dig.l k32.dig.l)))), (fun G v => ∃ bb_, v = .slice (some ⟨bb_, 0, none⟩) 2 2 ∧ Sl G v ([(cmpI k32.seq o.seq), (cmpB o.dig.l k32.dig.l)] : List Int)), (fun _ v_ => v_ = (.int .i64 ((orI ([(cmpI k32.seq o.seq), (cmpB o.dig.l k32.dig.l)]))))), (fun _ v_ => v_ = (.bool (decide (0 < (orI ([(cmpI k32.seq o.seq), (cmpB o.dig.l k32.dig.l)])))))), (fun _ v_ => v_ = (.bool (decide (0 < (orI ([(cmpI k32.seq o.seq), (cmpB o.dig.l k32.dig.l)])))))), (fun _ v_ => v_ = (.bool (decide (0 < (orI ([(cmpI k32.seq o.seq), (cmpB o.dig.l k32.dig.l)]))))))]) (fun _ _ G' w => Cx w0 G0 G' w ⟨[], [(r26, it35), (r12, it0), (b10, q0)]⟩ ∧ Bxs G' w w0.heap.size [(b45, 28, k32.cells), (b9, 28, o.cells)] ⟨[], [(r26, it35), (r12, it0), (b10, q0)]⟩ ∧ GLe G G') G (vAt_mono ⟨fun _ _ _ _ h => h, fun _ _ _ _ h => h, fun _ _ _ _ h => h, fun _ _ _ _ h => h, fun _ _ _ _ h => h, fun _ _ _ _ h => h, fun _ _ _ _ h => h, fun _ _ _ _ h => h, fun _ _ _ _ h => h, fun _ _ _ _ h => h, fun _ _ _ _ h => h, fun _ _ _ _ h => h, fun _ _ _ _ h => h, fun _ _ _ _ h => h, fun _ _ _ _ h => h, fun _ _ _ _ h => h, fun _ _ _ _ h => h, fun _ _ _ hg => fun ⟨b, h1, h2⟩ => ⟨b, h1, h2.mono hg⟩, fun _ _ _ _ h => h, fun _ _ _ _ h => h, fun _ _ _ _ h => h, fun _ _ _ _ h => h, trivial⟩) (fun _ _ => ⟨hC.drew, hB.drew, fun _ _ h => h⟩) ?_ ?_
          · refine dsNone (j := 1) rfl ?_ ?_
            · intro done G w ac_ hd hp hn ⟨hC, hB, hg⟩ hM
              have f12 : ac_.tmps[12]? = some (.int .i64 y41) := hM.old0 rfl rfl
              have hF : Fr 71 ac_ (Env.nil.put 12 (.int .i64 y41)) := (hM.fr.add f12)
              exact OpVal.draw hF (opMove rfl) ⟨G, fun _ _ h => h, ⟨hC, hB, hg⟩, rfl⟩
            refine dsNone (j := 2) rfl ?_ ?_
            · intro done G w ac_ hd hp hn ⟨hC, hB, hg⟩ hM
              have f1 : ac_.tmps[1]? = some (.int .i64 many) := hM.old0 rfl rfl
              have hF : Fr 71 ac_ (Env.nil.put 1 (.int .i64 many)) := (hM.fr.add f1)
              exact OpVal.draw hF (opMove rfl) ⟨G, fun _ _ h => h, ⟨hC, hB, hg⟩, rfl⟩
            refine dsNone (j := 3) rfl ?_ ?_
            · intro done G w ac_ hd hp hn ⟨hC, hB, hg⟩ hM
              have f46 : ac_.tmps[46]? = some (.int .i64 y41) := hM.eqv 0 rfl (hp 0 rfl) rfl rfl
              have f47 : ac_.tmps[47]? = some (.int .i64 many) := hM.eqv 1 rfl (hp 1 rfl) rfl rfl
              have hF : Fr 71 ac_ ((Env.nil.put 46 (.int .i64 y41)).put 47 (.int .i64 many)) := ((hM.fr.add f46).add f47)
              exact OpVal.draw hF (OpVal.cast (opGeq rfl rfl) (congrArg Value.bool h46)) ⟨G, fun _ _ h => h, ⟨hC, hB, hg⟩, rfl⟩
            refine dsNone (j := 4) rfl ?_ ?_
            · intro done G w ac_ hd hp hn ⟨hC, hB, hg⟩ hM
              have f48 : ac_.tmps[48]? = some (.bool true) := hM.eqv 2 rfl (hp 2 rfl) rfl rfl
              have hF : Fr 71 ac_ (Env.nil.put 48 (.bool true)) := (hM.fr.add f48)
              exact OpVal.draw hF (opMove rfl) ⟨G, fun _ _ h => h, ⟨hC, hB, hg⟩, rfl⟩
            refine dsOn (j := 5) rfl rfl ?_ ?_
            · intro done G w ac_ hd hp hn ⟨hC, hB, hg⟩ hM
              have f5 : ac_.tmps[5]? = some (.bool true) := hM.old0 rfl rfl
              have f49 : ac_.tmps[49]? = some (.bool true) := hM.eqv 3 rfl (hp 3 rfl) rfl rfl
              refine ⟨f49, ?_⟩
              have hF : Fr 71 ac_ (Env.nil.put 5 (.bool true)) := (hM.fr.add f5)
              exact OpVal.draw hF (opMove rfl) ⟨G, fun _ _ h => h, ⟨hC, hB, hg⟩, rfl⟩
            refine dsOn (j := 6) rfl rfl ?_ ?_
            · intro done G w ac_ hd hp hn ⟨hC, hB, hg⟩ hM
              have f50 : ac_.tmps[50]? = some (.bool true) := hM.eqv 4 rfl (hp 4 rfl) rfl rfl
              have f49 : ac_.tmps[49]? = some (.bool true) := hM.eqv 3 rfl (hp 3 rfl) rfl rfl
              refine ⟨f49, ?_⟩
              have hF : Fr 71 ac_ (Env.nil.put 50 (.bool true)) := (hM.fr.add f50)
              exact OpVal.draw hF (opNot rfl) ⟨G, fun _ _ h => h, ⟨hC, hB, hg⟩, rfl⟩
            refine dsOn (j := 7) rfl rfl ?_ ?_
            · intro done G w ac_ hd hp hn ⟨hC, hB, hg⟩ hM
              have f51 : ac_.tmps[51]? = some (.bool false) := hM.eqv 5 rfl (hp 5 rfl) rfl rfl
              have f49 : ac_.tmps[49]? = some (.bool true) := hM.eqv 3 rfl (hp 3 rfl) rfl rfl
              refine ⟨f49, ?_⟩
              have hF : Fr 71 ac_ (Env.nil.put 51 (.bool false)) := (hM.fr.add f51)
              exact OpVal.draw hF (opMove rfl) ⟨G, fun _ _ h => h, ⟨hC, hB, hg⟩, rfl⟩
            refine dsOn (j := 8) rfl rfl ?_ ?_
            · intro done G w ac_ hd hp hn ⟨hC, hB, hg⟩ hM
              have f11 : ac_.tmps[11]? = some (.pointer (some ⟨b45, 0, none⟩)) := hM.old0 rfl rfl
              have f52 : ac_.tmps[52]? = some (.bool false) := hM.eqv 6 rfl (hp 6 rfl) rfl rfl
              refine ⟨f52, ?_⟩
              have hF : Fr 71 ac_ (Env.nil.put 11 (.pointer (some ⟨b45, 0, none⟩))) := (hM.fr.add f11)
              exact OpVal.draw hF (opFieldAddr rfl fo28_0) ⟨G, fun _ _ h => h, ⟨hC, hB, hg⟩, rfl⟩
            refine dsOn (j := 9) rfl rfl ?_ ?_
            · intro done G w ac_ hd hp hn ⟨hC, hB, hg⟩ hM
              have f53 : ac_.tmps[53]? = some (.pointer (some ⟨b45, 0, none⟩)) := hM.eqv 7 rfl (hp 7 rfl) rfl rfl
              have f52 : ac_.tmps[52]? = some (.bool false) := hM.eqv 6 rfl (hp 6 rfl) rfl rfl
              refine ⟨f52, ?_⟩
              have hF : Fr 71 ac_ (Env.nil.put 53 (.pointer (some ⟨b45, 0, none⟩))) := (hM.fr.add f53)
              exact OpVal.draw hF (opLoadOne (v := (.int .i64 k32.seq)) rfl (hB.cell (i := 0) rfl (by simp [Mark.cells, Do.cells, Word.cells])) one3) ⟨G, fun _ _ h => h, ⟨hC, hB, hg⟩, rfl⟩
            refine dsOn (j := 10) rfl rfl ?_ ?_
            · intro done G w ac_ hd hp hn ⟨hC, hB, hg⟩ hM
              have f4 : ac_.tmps[4]? = some (.pointer (some ⟨b9, 0, none⟩)) := hM.old0 rfl rfl
              have f52 : ac_.tmps[52]? = some (.bool false) := hM.eqv 6 rfl (hp 6 rfl) rfl rfl
              refine ⟨f52, ?_⟩
              have hF : Fr 71 ac_ (Env.nil.put 4 (.pointer (some ⟨b9, 0, none⟩))) := (hM.fr.add f4)
              exact OpVal.draw hF (opFieldAddr rfl fo28_0) ⟨G, fun _ _ h => h, ⟨hC, hB, hg⟩, rfl⟩
            refine dsOn (j := 11) rfl rfl ?_ ?_
            · intro done G w ac_ hd hp hn ⟨hC, hB, hg⟩ hM
              have f55 : ac_.tmps[55]? = some (.pointer (some ⟨b9, 0, none⟩)) := hM.eqv 9 rfl (hp 9 rfl) rfl rfl
              have f52 : ac_.tmps[52]? = some (.bool false) := hM.eqv 6 rfl (hp 6 rfl) rfl rfl
              refine ⟨f52, ?_⟩
              have hF : Fr 71 ac_ (Env.nil.put 55 (.pointer (some ⟨b9, 0, none⟩))) := (hM.fr.add f55)
              exact OpVal.draw hF (opLoadOne (v := (.int .i64 o.seq)) rfl (hB.cell (i := 1) rfl (by simp [Mark.cells, Do.cells, Word.cells])) one3) ⟨G, fun _ _ h => h, ⟨hC, hB, hg⟩, rfl⟩
            refine dsOn (j := 12) rfl rfl ?_ ?_
            · intro done G w ac_ hd hp hn ⟨hC, hB, hg⟩ hM
              have f54 : ac_.tmps[54]? = some (.int .i64 k32.seq) := hM.eqv 8 rfl (hp 8 rfl) rfl rfl
              have f56 : ac_.tmps[56]? = some (.int .i64 o.seq) := hM.eqv 10 rfl (hp 10 rfl) rfl rfl
              have f52 : ac_.tmps[52]? = some (.bool false) := hM.eqv 6 rfl (hp 6 rfl) rfl rfl
              refine ⟨f52, ?_⟩
              have hF : Fr 71 ac_ ((Env.nil.put 54 (.int .i64 k32.seq)).put 56 (.int .i64 o.seq)) := ((hM.fr.add f54).add f56)
              exact drawCallS hF rfl co36 rfl (compare_ret _ _ hC.holds k32.seq o.seq) (fun w' hk => ⟨G, fun _ _ h => h, ⟨hC.trans hk, hB.ext hk, hg⟩, rfl⟩)
            refine dsOn (j := 13) rfl rfl ?_ ?_
            · intro done G w ac_ hd hp hn ⟨hC, hB, hg⟩ hM
              have f4 : ac_.tmps[4]? = some (.pointer (some ⟨b9, 0, none⟩)) := hM.old0 rfl rfl
              have f52 : ac_.tmps[52]? = some (.bool false) := hM.eqv 6 rfl (hp 6 rfl) rfl rfl
              refine ⟨f52, ?_⟩
              have hF : Fr 71 ac_ (Env.nil.put 4 (.pointer (some ⟨b9, 0, none⟩))) := (hM.fr.add f4)
              exact OpVal.draw hF (opFieldAddr rfl fo28_1) ⟨G, fun _ _ h => h, ⟨hC, hB, hg⟩, rfl⟩
            refine dsOn (j := 14) rfl rfl ?_ ?_
            · intro done G w ac_ hd hp hn ⟨hC, hB, hg⟩ hM
              have f58 : ac_.tmps[58]? = some (.pointer (some ⟨b9, 1, none⟩)) := hM.eqv 12 rfl (hp 12 rfl) rfl rfl
              have f52 : ac_.tmps[52]? = some (.bool false) := hM.eqv 6 rfl (hp 6 rfl) rfl rfl
              refine ⟨f52, ?_⟩
              have hF : Fr 71 ac_ (Env.nil.put 58 (.pointer (some ⟨b9, 1, none⟩))) := (hM.fr.add f58)
              exact OpVal.draw hF (opSliceArrO by26 rfl) ⟨G, fun _ _ h => h, ⟨hC, hB, hg⟩, rfl⟩
            refine dsOn (j := 15) rfl rfl ?_ ?_
            · intro done G w ac_ hd hp hn ⟨hC, hB, hg⟩ hM
              have f11 : ac_.tmps[11]? = some (.pointer (some ⟨b45, 0, none⟩)) := hM.old0 rfl rfl
              have f52 : ac_.tmps[52]? = some (.bool false) := hM.eqv 6 rfl (hp 6 rfl) rfl rfl
              refine ⟨f52, ?_⟩
              have hF : Fr 71 ac_ (Env.nil.put 11 (.pointer (some ⟨b45, 0, none⟩))) := (hM.fr.add f11)
              exact OpVal.draw hF (opFieldAddr rfl fo28_1) ⟨G, fun _ _ h => h, ⟨hC, hB, hg⟩, rfl⟩
            refine dsOn (j := 16) rfl rfl ?_ ?_
            · intro done G w ac_ hd hp hn ⟨hC, hB, hg⟩ hM
              have f60 : ac_.tmps[60]? = some (.pointer (some ⟨b45, 1, none⟩)) := hM.eqv 14 rfl (hp 14 rfl) rfl rfl
              have f52 : ac_.tmps[52]? = some (.bool false) := hM.eqv 6 rfl (hp 6 rfl) rfl rfl
              refine ⟨f52, ?_⟩
              have hF : Fr 71 ac_ (Env.nil.put 60 (.pointer (some ⟨b45, 1, none⟩))) := (hM.fr.add f60)
              exact OpVal.draw hF (opSliceArrO by26 rfl) ⟨G, fun _ _ h => h, ⟨hC, hB, hg⟩, rfl⟩
            refine dsOn (j := 17) rfl rfl ?_ ?_
            · intro done G w ac_ hd hp hn ⟨hC, hB, hg⟩ hM
              have f59 : ac_.tmps[59]? = some (.slice (some ⟨b9, 1, none⟩) 32 32) := hM.eqv 13 rfl (hp 13 rfl) rfl rfl
              have f61 : ac_.tmps[61]? = some (.slice (some ⟨b45, 1, none⟩) 32 32) := hM.eqv 15 rfl (hp 15 rfl) rfl rfl
              have f52 : ac_.tmps[52]? = some (.bool false) := hM.eqv 6 rfl (hp 6 rfl) rfl rfl
              refine ⟨f52, ?_⟩
              have hF : Fr 71 ac_ ((Env.nil.put 59 (.slice (some ⟨b9, 1, none⟩) 32 32)).put 61 (.slice (some ⟨b45, 1, none⟩) 32 32)) := ((hM.fr.add f59).add f61)
              exact drawCallS hF rfl co60 rfl (RetS.lendB hC.holds hB (fun G_ hg_ hh_ hL_ => bcmp_ret _ _ hh_ _ o.dig.l (Sl.ofDig' (o := 1) (by simpa using RowG.part (i := 1) (m := 32) (HasO.row (hL_ (b9, 28, o.cells) (by simp))) (by simp [Mark.cells, Do.cells, Word.cells]))) _ k32.dig.l (Sl.ofDig' (o := 1) (by simpa using RowG.part (i := 1) (m := 32) (HasO.row (hL_ (b45, 28, k32.cells) (by simp))) (by simp [Mark.cells, Do.cells, Word.cells]))))) (fun w' hk => ⟨G, fun _ _ h => h, ⟨hC.trans hk, hB.ext hk, hg⟩, rfl⟩)
            refine dsOn (j := 18) rfl rfl ?_ ?_
            · intro done G w ac_ hd hp hn ⟨hC, hB, hg⟩ hM
              have f57 : ac_.tmps[57]? = some (.int .i64 ((cmpI k32.seq o.seq))) := hM.eqv 11 rfl (hp 11 rfl) rfl rfl
              have f62 : ac_.tmps[62]? = some (.int .i64 ((cmpB o.dig.l k32.dig.l))) := hM.eqv 16 rfl (hp 16 rfl) rfl rfl
              have f52 : ac_.tmps[52]? = some (.bool false) := hM.eqv 6 rfl (hp 6 rfl) rfl rfl
              refine ⟨f52, ?_⟩
              have hF : Fr 71 ac_ ((Env.nil.put 57 (.int .i64 ((cmpI k32.seq o.seq)))).put 62 (.int .i64 ((cmpB o.dig.l k32.dig.l)))) := ((hM.fr.add f57).add f62)
              exact drawBsl hF (α := Int) (ps := [(0, .tmp 57), (1, .tmp 62)]) (xs := [(cmpI k32.seq o.seq), (cmpB o.dig.l k32.dig.l)]) (rows := [[(.int .i64 ((cmpI k32.seq o.seq)))], [(.int .i64 ((cmpB o.dig.l k32.dig.l)))]]) elo22 rfl rfl hC.holds rfl rfl rfl ⟨rfl, rfl, trivial⟩ (fun b G' w' hk hr => ⟨G', hk.gle, ⟨hC.trans hk, hB.ext hk, fun b o h => hk.gle b o (hg b o h)⟩, ⟨b, rfl, hr⟩⟩)
            refine dsOn (j := 19) rfl rfl ?_ ?_
            · intro done G w ac_ hd hp hn ⟨hC, hB, hg⟩ hM
              obtain ⟨v_, f63, ⟨b48, rfl, hs49⟩⟩ := hM.new 17 _ _ rfl (hp 17 rfl) rfl
              have f52 : ac_.tmps[52]? = some (.bool false) := hM.eqv 6 rfl (hp 6 rfl) rfl rfl
              refine ⟨f52, ?_⟩
              have hF : Fr 71 ac_ (Env.nil.put 63 (.slice (some ⟨b48, 0, none⟩) 2 2)) := (hM.fr.add f63)
              exact drawCallS hF rfl co59 rfl (or_ret _ _ hC.holds _ ([(cmpI k32.seq o.seq), (cmpB o.dig.l k32.dig.l)]) hs49) (fun w' hk => ⟨G, fun _ _ h => h, ⟨hC.trans hk, hB.ext hk, hg⟩, rfl⟩)
            refine dsOn (j := 20) rfl rfl ?_ ?_
            · intro done G w ac_ hd hp hn ⟨hC, hB, hg⟩ hM
              have f64 : ac_.tmps[64]? = some (.int .i64 ((orI ([(cmpI k32.seq o.seq), (cmpB o.dig.l k32.dig.l)])))) := hM.eqv 18 rfl (hp 18 rfl) rfl rfl
              have f52 : ac_.tmps[52]? = some (.bool false) := hM.eqv 6 rfl (hp 6 rfl) rfl rfl
              refine ⟨f52, ?_⟩
              have hF : Fr 71 ac_ (Env.nil.put 64 (.int .i64 ((orI ([(cmpI k32.seq o.seq), (cmpB o.dig.l k32.dig.l)]))))) := (hM.fr.add f64)
              exact OpVal.draw hF (opGtr rfl rfl) ⟨G, fun _ _ h => h, ⟨hC, hB, hg⟩, rfl⟩
            refine dsOn (j := 21) rfl rfl ?_ ?_
            · intro done G w ac_ hd hp hn ⟨hC, hB, hg⟩ hM
              have f52 : ac_.tmps[52]? = some (.bool false) := hM.eqv 6 rfl (hp 6 rfl) rfl rfl
              have f65 : ac_.tmps[65]? = some (.bool (decide (0 < (orI ([(cmpI k32.seq o.seq), (cmpB o.dig.l k32.dig.l)]))))) := hM.eqv 19 rfl (hp 19 rfl) rfl rfl
              have f49 : ac_.tmps[49]? = some (.bool true) := hM.eqv 3 rfl (hp 3 rfl) rfl rfl
              refine ⟨f49, ?_⟩
              have hF : Fr 71 ac_ ((Env.nil.put 52 (.bool false)).put 65 (.bool (decide (0 < (orI ([(cmpI k32.seq o.seq), (cmpB o.dig.l k32.dig.l)])))))) := ((hM.fr.add f52).add f65)
              exact OpVal.draw hF (opPickF rfl rfl) ⟨G, fun _ _ h => h, ⟨hC, hB, hg⟩, rfl⟩
            refine dsNone (j := 22) rfl ?_ ?_
            · intro done G w ac_ hd hp hn ⟨hC, hB, hg⟩ hM
              have f49 : ac_.tmps[49]? = some (.bool true) := hM.eqv 3 rfl (hp 3 rfl) rfl rfl
              have f66 : ac_.tmps[66]? = some (.bool (decide (0 < (orI ([(cmpI k32.seq o.seq), (cmpB o.dig.l k32.dig.l)]))))) := hM.eqv 20 rfl (hp 20 rfl) rfl rfl
              have hF : Fr 71 ac_ ((Env.nil.put 49 (.bool true)).put 66 (.bool (decide (0 < (orI ([(cmpI k32.seq o.seq), (cmpB o.dig.l k32.dig.l)])))))) := ((hM.fr.add f49).add f66)
              exact OpVal.draw hF (opPickT rfl rfl) ⟨G, fun _ _ h => h, ⟨hC, hB, hg⟩, rfl⟩
            exact dsNil
          · intro done G w ac_ hall ⟨hC, hB, hg⟩ hM
            replace hs3 := hs3.mono hg
            replace hM4 := hM4.mono hg
            replace hbm := hbm.mono hg
            replace hlm := hlm.mono hg
            replace hm := hm.mono hg
            replace hMq0 := hMq0.mono hg
            replace hIit0 := hIit0.mono hg
            replace hI38 := hI38.mono hg
            replace hF8 := hF8.mono hg
            have f1 : ac_.tmps[1]? = some (.int .i64 many) := hM.old0 rfl rfl
            have f4 : ac_.tmps[4]? = some (.pointer (some ⟨b9, 0, none⟩)) := hM.old0 rfl rfl
            have f5 : ac_.tmps[5]? = some (.bool true) := hM.old0 rfl rfl
            have f11 : ac_.tmps[11]? = some (.pointer (some ⟨b45, 0, none⟩)) := hM.old0 rfl rfl
            have f40 : ac_.tmps[40]? = some (.pointer (some ⟨r26, 0, none⟩)) := hM.old0 rfl rfl
            have f67 : ac_.tmps[67]? = some (.bool (decide (0 < (orI ([(cmpI k32.seq o.seq), (cmpB o.dig.l k32.dig.l)]))))) := hM.eqv 21 rfl (hall 21 (by decide)) rfl rfl
            refine ⟨((((((Env.nil.put 1 (.int .i64 many)).put 4 (.pointer (some ⟨b9, 0, none⟩))).put 5 (.bool true)).put 11 (.pointer (some ⟨b45, 0, none⟩))).put 40 (.pointer (some ⟨r26, 0, none⟩))).put 67 (.bool (decide (0 < (orI ([(cmpI k32.seq o.seq), (cmpB o.dig.l k32.dig.l)])))))), ((((((hM.fr.add f1).add f4).add f5).add f11).add f40).add f67), ?_⟩
            clear hM hall
            refine wcOf ?_
            cases h50 : decide (0 < (orI ([(cmpI k32.seq o.seq), (cmpB o.dig.l k32.dig.l)])))
            · skip
              refine wcCondF rfl ?_
              refine wcSkip ?_
              refine wrOf ?_
              exact (IH2 (o, true, (dn ++ [k32]), it35, (la31 ++ lb33)) _ _ ⟨hC, hB.tail, hs3, hM4, hbm, hlm, hm, hMq0, hIit0, hF8, hI38, hE, (hS_step hS hle29), (by rw [bestG_snoc, hG]; have q : mayG (lists m) many k32 = _ := may_of hdl hE hT many hy42; simp only [q, cmpM_dec, h46, h47, h50, Bool.not_true, Bool.not_false, Bool.true_or, Bool.false_or, Bool.true_and, Bool.false_and, Bool.and_true, Bool.and_false, Bool.or_true, Bool.or_false, cond_true, cond_false])⟩ (by rw [hle29]; simp)).sub (fun _ ha => ((((ha.start.cons ha (t := 1) rfl).cons ha (t := 4) rfl).cons ha (t := 5) rfl).cons ha (t := 40) rfl))
            · skip
              refine wcCondT rfl ?_
              refine wcRegion ?_
              refine wlVal (opLoadRow (cs := k32.cells) rfl (hB.range (i := 0) (m := 33) rfl (by simp [Mark.cells, Do.cells, Word.cells])) row28 (by simp [Mark.cells, Do.cells, Word.cells])) rfl ?_
              refine wlStore 1 (vs := k32.cells) (cs := o.cells) (cs' := k32.cells) hC hB rfl rfl rfl sz28 rfl (by simp [Mark.cells, Do.cells, Word.cells]) (by simp [Mark.cells, Do.cells, Word.cells, Value.oneCell']) (by simp [Mark.cells, Do.cells, Word.cells]) (by simp [Mark.cells, Do.cells, Word.cells]) rfl ?_; intro w hC hB
              refine wlVal (opAssign rfl) rfl ?_
              refine wlNil ?_
              refine wrOf ?_
              exact (IH2 (k32, true, (dn ++ [k32]), it35, (la31 ++ lb33)) _ _ ⟨hC, hB.tail, hs3, hM4, hbm, hlm, hm, hMq0, hIit0, hF8, hI38, hE, (hS_step hS hle29), (by rw [bestG_snoc, hG]; have q : mayG (lists m) many k32 = _ := may_of hdl hE hT many hy42; simp only [q, cmpM_dec, h46, h47, h50, Bool.not_true, Bool.not_false, Bool.true_or, Bool.false_or, Bool.true_and, Bool.false_and, Bool.and_true, Bool.and_false, Bool.or_true, Bool.or_false, cond_true, cond_false])⟩ (by rw [hle29]; simp)).sub (fun _ ha => ((((ha.start.cons ha (t := 1) rfl).cons ha (t := 4) rfl).cons ha (t := 5) rfl).cons ha (t := 40) rfl))
  · skip
    refine wlNext1 hC hB (i := 0) rfl rfl hw23 hr16 rfl ?_; intro w hC hB
    replace hC : Cx w0 G0 G w ⟨[], [(r12, it21), (b10, q0)]⟩ := hC
    replace hB : Bxs G w w0.heap.size [(b9, 28, ((.int .i64 0) :: (Dig.zero.cells ++ [])))] ⟨[], [(r12, it21), (b10, q0)]⟩ := hB
    refine wlVal (opExtract rfl rfl) rfl ?_
    refine wlThen ?_
    refine wcSeq ?_
    refine wcCondT rfl ?_
    refine wcSkip ?_
    refine wcOf ?_
    refine wcBlock ?_
    refine wcSeq ?_
    refine wcRegion ?_
    obtain ⟨v51, y52, hy53, hv54, hr55⟩ := hc25.entry (keyL_int ui3).inj hM4
    have hs56 := isL hv54
    obtain ⟨A57, cap58, rfl⟩ := hs56.form
    refine wlVal (opEntryH rfl (hr55 _ _ (hC.heldAt 0 rfl) (hlm.at_ hC.holds))) rfl ?_
    refine wlVal (opExtract rfl rfl) rfl ?_
    refine wlVal (opAssign rfl) rfl ?_
    refine wlThen ?_
    refine wcSeq ?_
    refine wcRegion ?_
    refine wlVal (opMove rfl) rfl ?_
    refine wlVal (opLen rfl isl54) rfl ?_
    refine wlVal (opMove rfl) rfl ?_
    refine wlThen ?_
    refine wcBlock ?_
    refine WC.sub (wrInd (ι := Nat × Obj × (List (Mark × Int))) (fun i => match i with | (i, q1, D1) => y52.length - i) (fun i G w => match i with | (i, q1, D1) => Cx w0 G0 G w ⟨[], [(r12, it21), (b10, q1)]⟩ ∧ Bxs G w w0.heap.size [(b9, 28, ((.int .i64 0) :: (Dig.zero.cells ++ [])))] ⟨[], [(r12, it21), (b10, q1)]⟩ ∧ Sl G (.slice A6 m.crew.nodes.length cap7) m.crew.nodes ∧ MpO kI G qm m.list ∧ HasO G bm om ∧ HasO G lm qm ∧ MarksO G om qm lm m ∧ ItO kI qm it21 lm (la17 ++ lb19) ∧ Sl G (.slice A57 y52.length cap58) y52 ∧ RowG G bm 0 ((.int .i64 m.crew.faults) :: ((.slice A6 m.crew.nodes.length cap7) :: ((.int .i64 m.low.seq) :: (m.low.dig.cells ++ ((.map (some lm)) :: []))))) ∧ MpO kM G q1 D1 ∧ i ≤ y52.length ∧ (∀ x, mget D1 x = tal (y52.take i :: dl) x)) (fun i => match i with | (i, q1, D1) => ((((((((Env.nil.put 1 (.int .i64 many)).put 4 (.pointer (some ⟨b9, 0, none⟩))).put 5 (.bool false)).put 6 (.map (some b10))).put 21 (.pointer (some ⟨r12, 0, none⟩))).put 26 (.slice A57 y52.length cap58)).put 27 (.int .i64 (((y52.length : Nat) : Int)))).put 28 (.int .i64 (((i : Nat) : Int))))) ?_ (0, q0, D0) _ _ ⟨hC, hB, hs3, hM4, hbm, hlm, hm, hI24, hs56, hF8, hMq0, (by simp), (by intro x; rw [hT x]; simp [tal, cntL_cons])⟩) (fun _ ha => ((((((((ha.start.cons ha (t := 1) rfl).cons ha (t := 4) rfl).cons ha (t := 5) rfl).cons ha (t := 6) rfl).cons ha (t := 21) rfl).cons ha (t := 26) rfl).cons ha (t := 27) rfl).cons ha (t := 28) rfl))
    rintro ⟨i, q1, D1⟩ G w N1 IH1 ⟨hC, hB, hs3, hM4, hbm, hlm, hm, hI24, hs56, hF8, hMq1, hi1, hT1⟩
    show WC _ _ _ _ ((((((((Env.nil.put 1 (.int .i64 many)).put 4 (.pointer (some ⟨b9, 0, none⟩))).put 5 (.bool false)).put 6 (.map (some b10))).put 21 (.pointer (some ⟨r12, 0, none⟩))).put 26 (.slice A57 y52.length cap58)).put 27 (.int .i64 (((y52.length : Nat) : Int)))).put 28 (.int .i64 (((i : Nat) : Int)))) w
    refine wcSeq ?_
    refine wcRegion ?_
    refine wlVal (opLssN rfl rfl) rfl ?_
    refine wlThen ?_
    refine wcSeq ?_
    cases h59 : decide (i < y52.length)
    · skip
      refine wcCondF rfl ?_
      refine wcExit ?_
      refine wrOf ?_
      exact (IH0 ((y52 :: dl), it21, (la17 ++ lb19), q1, D1) _ _ ⟨hC, hB, hs3, hM4, hbm, hlm, hm, hF8, hMq1, hI24, hnd, (dl_step hdl hle15 hy53), (by intro x; rw [hT1 x, List.take_of_length_le (by have q := of_decide_eq_false h59; omega)])⟩ (by rw [hle15]; simp)).sub (fun _ ha => (((((ha.start.cons ha (t := 1) rfl).cons ha (t := 4) rfl).cons ha (t := 5) rfl).cons ha (t := 6) rfl).cons ha (t := 21) rfl))
    · skip
      refine wcCondT rfl ?_
      refine wcSkip ?_
      refine wcOf ?_
      refine wcSeq ?_
      refine wcBlock ?_
      refine wcSeq ?_
      refine wcRegion ?_
      obtain ⟨x60, hx61⟩ : ∃ y_, y52[i]? = some y_ := ⟨_, List.getElem?_eq_getElem (of_decide_eq_true h59)⟩
      obtain ⟨b62, o63, row64, hA67, hr65, hi66⟩ := hs56.elem hx61; subst hA67
      obtain rfl := hi66
      refine wlVal (opIndexAddr rfl rfl slo54 (of_decide_eq_true h59)) rfl ?_
      refine wlVal (opLoadRow (cs := x60.cells) rfl (RowG.range hC.holds hr65) row28 (by simp [Mark.cells, Do.cells, Word.cells])) rfl ?_
      refine wlAlloc hC hB zero28 rfl ?_; intro b68 w hk hC hB
      refine wlStore 0 (vs := x60.cells) (cs := ((.int .i64 0) :: (Dig.zero.cells ++ []))) (cs' := x60.cells) hC hB rfl rfl rfl sz28 rfl (by simp [Mark.cells, Do.cells, Word.cells]) (by simp [Mark.cells, Do.cells, Word.cells, Value.oneCell']) (by simp [Mark.cells, Do.cells, Word.cells]) (by simp [Mark.cells, Do.cells, Word.cells]) rfl ?_; intro w hC hB
      refine wlThen ?_
      obtain ⟨v69, hv70, hr71⟩ := hMq1.lookup keyL28 mk86 zv3 rfl x60
      obtain rfl := isI hv70
      obtain ⟨q72, v73, sg74, hM75, hv76, hr77, hst78⟩ := hMq1.entry keyL28 mk86 zv3 rfl x60; obtain rfl := isI hv76
      obtain ⟨v79, hv80, hr81⟩ := hM75.lookup keyL28 mk86 zv3 rfl x60; rw [mget_mput, if_pos rfl, Option.getD_some] at hv80; obtain rfl := isI hv80
      obtain ⟨q82, hM83, hr84⟩ := hst78 (.int .i64 (IntKind.wrap .i64 (((mget D1 x60).getD (0 : Int)) + 1))) (IntKind.wrap .i64 (((mget D1 x60).getD (0 : Int)) + 1)) rfl
      refine wcDraw fmix (by kernel_rfl) (by kernel_rfl) (vAt [(fun _ v_ => v_ = (.map (some b10))), (fun _ v_ => v_ = (.agg x60.cells.toArray)), (fun _ v_ => v_ = (.int .i64 (((mget D1 x60).getD (0 : Int))))), (fun _ v_ => v_ = (.int .i64 (IntKind.wrap .i64 (((mget D1 x60).getD (0 : Int)) + 1)))), (fun _ v_ => v_ = (.tuple #[(.int .i64 (((mget D1 x60).getD (0 : Int)))), (.int .i64 sg74)])), (fun _ v_ => v_ = (.int .i64 sg74)), (fun _ _ => True)]) (fun done _ G' w => Cx w0 G0 G' w ⟨[], [(r12, it21), (b10, (bif done 6 then q82 else (bif done 4 then q72 else q1)))]⟩ ∧ Bxs G' w w0.heap.size [(b68, 28, x60.cells), (b9, 28, ((.int .i64 0) :: (Dig.zero.cells ++ [])))] ⟨[], [(r12, it21), (b10, (bif done 6 then q82 else (bif done 4 then q72 else q1)))]⟩ ∧ GLe G G') G (vAt_mono ⟨fun _ _ _ _ h => h, fun _ _ _ _ h => h, fun _ _ _ _ h => h, fun _ _ _ _ h => h, fun _ _ _ _ h => h, fun _ _ _ _ h => h, fun _ _ _ _ h => h, trivial⟩) (fun _ _ => ⟨hC.drew, hB.drew, fun _ _ h => h⟩) ?_ ?_
      · refine dsNone (j := 1) rfl ?_ ?_
        · intro done G w ac_ hd hp hn ⟨hC, hB, hg⟩ hM
          have f6 : ac_.tmps[6]? = some (.map (some b10)) := hM.old0 rfl rfl
          have hF : Fr 71 ac_ (Env.nil.put 6 (.map (some b10))) := (hM.fr.add f6)
          exact OpVal.draw hF (opMove rfl) ⟨G, fun _ _ h => h, ⟨hC, hB, hg⟩, rfl⟩
        refine dsNone (j := 2) rfl ?_ ?_
        · intro done G w ac_ hd hp hn ⟨hC, hB, hg⟩ hM
          have f10 : ac_.tmps[10]? = some (.pointer (some ⟨b68, 0, none⟩)) := hM.old0 rfl rfl
          have hF : Fr 71 ac_ (Env.nil.put 10 (.pointer (some ⟨b68, 0, none⟩))) := (hM.fr.add f10)
          exact OpVal.draw hF (opLoadRow (cs := x60.cells) rfl (hB.range (i := 0) (m := 33) rfl (by simp [Mark.cells, Do.cells, Word.cells])) row28 (by simp [Mark.cells, Do.cells, Word.cells])) ⟨G, fun _ _ h => h, ⟨hC, hB, hg⟩, rfl⟩
        refine dsNone (j := 3) rfl ?_ ?_
        · intro done G w ac_ hd hp hn ⟨hC, hB, hg⟩ hM
          have f32 : ac_.tmps[32]? = some (.map (some b10)) := hM.eqv 0 rfl (hp 0 rfl) rfl rfl
          have f33 : ac_.tmps[33]? = some (.agg x60.cells.toArray) := hM.eqv 1 rfl (hp 1 rfl) rfl rfl
          have hF : Fr 71 ac_ ((Env.nil.put 32 (.map (some b10))).put 33 (.agg x60.cells.toArray)) := ((hM.fr.add f32).add f33)
          cases h_ : done 4
          · have hC2 := hC; simp only [h_, hn 6 _ rfl rfl, cond_true, cond_false] at hC2; exact OpVal.draw hF (opLookupH rfl rfl (hr71 _ _ (hC2.heldAt 1 rfl))) ⟨G, fun _ _ h => h, ⟨hC, hB, hg⟩, rfl⟩
          · have hC2 := hC; simp only [h_, hn 6 _ rfl rfl, cond_true, cond_false] at hC2; exact OpVal.draw hF (opLookupH rfl rfl (hr81 _ _ (hC2.heldAt 1 rfl))) ⟨G, fun _ _ h => h, ⟨hC, hB, hg⟩, rfl⟩
        refine dsNone (j := 4) rfl ?_ ?_
        · intro done G w ac_ hd hp hn ⟨hC, hB, hg⟩ hM
          have f34 : ac_.tmps[34]? = some (.int .i64 (((mget D1 x60).getD (0 : Int)))) := hM.eqv 2 rfl (hp 2 rfl) rfl rfl
          have hF : Fr 71 ac_ (Env.nil.put 34 (.int .i64 (((mget D1 x60).getD (0 : Int))))) := (hM.fr.add f34)
          exact OpVal.draw hF (opAdd rfl rfl) ⟨G, fun _ _ h => h, ⟨hC, hB, hg⟩, rfl⟩
        refine dsNone (j := 5) rfl ?_ ?_
        · intro done G w ac_ hd hp hn ⟨hC, hB, hg⟩ hM
          have f32 : ac_.tmps[32]? = some (.map (some b10)) := hM.eqv 0 rfl (hp 0 rfl) rfl rfl
          have f33 : ac_.tmps[33]? = some (.agg x60.cells.toArray) := hM.eqv 1 rfl (hp 1 rfl) rfl rfl
          have hF : Fr 71 ac_ ((Env.nil.put 32 (.map (some b10))).put 33 (.agg x60.cells.toArray)) := ((hM.fr.add f32).add f33)
          simp only [hd, hn 6 _ rfl rfl, cond_false] at hC hB
          exact drawEntryH hF hC hB (i := 1) rfl rfl rfl (hr77 _ _ (hC.heldAt 1 rfl)) (fun w' hC hB => ⟨G, fun _ _ h => h, ⟨by simpa [Done.set, hn 6 _ rfl rfl] using hC, by simpa [Done.set, hn 6 _ rfl rfl] using hB, hg⟩, rfl⟩)
        refine dsNone (j := 6) rfl ?_ ?_
        · intro done G w ac_ hd hp hn ⟨hC, hB, hg⟩ hM
          have f36 : ac_.tmps[36]? = some (.tuple #[(.int .i64 (((mget D1 x60).getD (0 : Int)))), (.int .i64 sg74)]) := hM.eqv 4 rfl (hp 4 rfl) rfl rfl
          have hF : Fr 71 ac_ (Env.nil.put 36 (.tuple #[(.int .i64 (((mget D1 x60).getD (0 : Int)))), (.int .i64 sg74)])) := (hM.fr.add f36)
          exact OpVal.draw hF (opExtract rfl rfl) ⟨G, fun _ _ h => h, ⟨hC, hB, hg⟩, rfl⟩
        refine dsNone (j := 7) rfl ?_ ?_
        · intro done G w ac_ hd hp hn ⟨hC, hB, hg⟩ hM
          have f32 : ac_.tmps[32]? = some (.map (some b10)) := hM.eqv 0 rfl (hp 0 rfl) rfl rfl
          have f35 : ac_.tmps[35]? = some (.int .i64 (IntKind.wrap .i64 (((mget D1 x60).getD (0 : Int)) + 1))) := hM.eqv 3 rfl (hp 3 rfl) rfl rfl
          have f37 : ac_.tmps[37]? = some (.int .i64 sg74) := hM.eqv 5 rfl (hp 5 rfl) rfl rfl
          have hF : Fr 71 ac_ (((Env.nil.put 32 (.map (some b10))).put 35 (.int .i64 (IntKind.wrap .i64 (((mget D1 x60).getD (0 : Int)) + 1)))).put 37 (.int .i64 sg74)) := (((hM.fr.add f32).add f35).add f37)
          simp only [hd, hp 4 rfl, cond_false, cond_true] at hC hB
          exact drawEntryStoreH hF hC hB (i := 1) rfl rfl rfl rfl (hr84 _ _ (hC.heldAt 1 rfl)) (fun w' hC hB => ⟨G, fun _ _ h => h, ⟨by simpa [Done.set] using hC, by simpa [Done.set] using hB, hg⟩, trivial⟩)
        exact dsNil
      · intro done G w ac_ hall ⟨hC, hB, hg⟩ hM
        replace hs3 := hs3.mono hg
        replace hM4 := hM4.mono hg
        replace hbm := hbm.mono hg
        replace hlm := hlm.mono hg
        replace hm := hm.mono hg
        replace hI24 := hI24.mono hg
        replace hs56 := hs56.mono hg
        replace hMq1 := hMq1.mono hg
        replace hr65 := hr65.mono hg
        replace hF8 := hF8.mono hg
        simp only [hall 4 (by decide), hall 6 (by decide), cond_true] at hC hB
        have f1 : ac_.tmps[1]? = some (.int .i64 many) := hM.old0 rfl rfl
        have f4 : ac_.tmps[4]? = some (.pointer (some ⟨b9, 0, none⟩)) := hM.old0 rfl rfl
        have f5 : ac_.tmps[5]? = some (.bool false) := hM.old0 rfl rfl
        have f6 : ac_.tmps[6]? = some (.map (some b10)) := hM.old0 rfl rfl
        have f21 : ac_.tmps[21]? = some (.pointer (some ⟨r12, 0, none⟩)) := hM.old0 rfl rfl
        have f26 : ac_.tmps[26]? = some (.slice (some ⟨b62, o63, none⟩) y52.length cap58) := hM.old0 rfl rfl
        have f27 : ac_.tmps[27]? = some (.int .i64 (((y52.length : Nat) : Int))) := hM.old0 rfl rfl
        have f28 : ac_.tmps[28]? = some (.int .i64 (((i : Nat) : Int))) := hM.old0 rfl rfl
        replace hM83 := hM83.mono hg
        replace hC : Cx w0 G0 G w ⟨[], [(r12, it21), (b10, q82)]⟩ := hC
        replace hB : Bxs G w w0.heap.size [(b68, 28, x60.cells), (b9, 28, ((.int .i64 0) :: (Dig.zero.cells ++ [])))] ⟨[], [(r12, it21), (b10, q82)]⟩ := hB
        refine ⟨((((((((Env.nil.put 1 (.int .i64 many)).put 4 (.pointer (some ⟨b9, 0, none⟩))).put 5 (.bool false)).put 6 (.map (some b10))).put 21 (.pointer (some ⟨r12, 0, none⟩))).put 26 (.slice (some ⟨b62, o63, none⟩) y52.length cap58)).put 27 (.int .i64 (((y52.length : Nat) : Int)))).put 28 (.int .i64 (((i : Nat) : Int)))), ((((((((hM.fr.add f1).add f4).add f5).add f6).add f21).add f26).add f27).add f28), ?_⟩
        clear hM hall
        refine wcOf ?_
        refine wcRegion ?_
        refine wlVal (opIncr rfl rfl (by have q := him_len him hy53; have q2 := of_decide_eq_true h59; omega)) rfl ?_
        refine wlVal (opMove rfl) rfl ?_
        refine wlRound ?_
        exact (IH1 (i + 1, q82, (mput D1 x60 (IntKind.wrap .i64 (((mget D1 x60).getD (0 : Int)) + 1)))) _ _ ⟨hC, hB.tail, hs3, hM4, hbm, hlm, hm, hI24, hs56, hF8, hM83, (of_decide_eq_true h59), (tal_step him hs3.le hnd hdl hT1 hy53 hx61)⟩ (by have := of_decide_eq_true h59; simp; omega)).sub (fun _ ha => ((((((((ha.start.cons ha (t := 1) rfl).cons ha (t := 4) rfl).cons ha (t := 5) rfl).cons ha (t := 6) rfl).cons ha (t := 21) rfl).cons ha (t := 26) rfl).cons ha (t := 27) rfl).cons ha (t := 28) rfl))

theorem stable_ret (G0 : Gh) (w0 : World) (hw : Holds G0 w0) (bm lm : Nat) (om qm : Obj) (m : MSt) (hbm : HasO G0 bm om) (hlm : HasO G0 lm qm) (hm : MarksO G0 om qm lm m) :
    RetS Try.prog 20 #[.pointer (some ⟨bm, 0, none⟩)] G0 w0 (.tuple #[(.agg ((gR (lists m) (most m.crew)).1).cells.toArray), (.bool ((gR (lists m) (most m.crew)).2))]) := by
  have hC := Cx.refl hw
  have hB : Bxs G0 w0 w0.heap.size [] := Bxs.nil _ _ _
  obtain ⟨v1, e2, hs3, hM4, hi5⟩ := id hm
  have him := hi5
  obtain ⟨A6, cap7, rfl⟩ := hs3.form
  have hF8 : RowG G0 bm 0 ((.int .i64 m.crew.faults) :: ((.slice A6 m.crew.nodes.length cap7) :: ((.int .i64 m.low.seq) :: (m.low.dig.cells ++ ((.map (some lm)) :: []))))) := HasO.row (T := 64) (by rw [← e2]; exact hbm)
  refine callsOf Try.func20 rfl _ Try.ntmps20 rfl _ (argsCons argsNil (t := 0) rfl) ?_; intro Q0 hQ
  refine wcSeq ?_
  refine wcRegion ?_
  refine wlAlloc hC hB zero28 rfl ?_; intro b9 w hk hC hB
  refine wlVal (opAssign rfl) rfl ?_
  refine wlThen ?_
  refine wcSeq ?_
  refine wcSeq ?_
  refine wcRegion ?_
  refine wlVal (opMove rfl) rfl ?_
  refine wlCallS hC hB rfl co32 rfl rfl (none_ret _ _ hC.holds bm lm _ _ m hbm hlm hm) ?_; intro w hk hC hB
  refine wlThen ?_
  refine wcCondF rfl ?_
  refine wcSkip ?_
  refine wcOf ?_
  refine wcSeq ?_
  refine wcRegion ?_
  refine wlVal (opMove rfl) rfl ?_
  refine wlVal (opMove rfl) rfl ?_
  refine wlVal (opNilCheck rfl) rfl ?_
  refine wlVal (opFieldAddr rfl fo64_0) rfl ?_
  refine wlVal (opLoadRow (cs := [(.int .i64 m.crew.faults), (.slice A6 m.crew.nodes.length cap7)]) rfl (RowG.range hC.holds (hF8.part (i := 0) (m := 2) (by simp [Mark.cells, Do.cells, Word.cells]))) row24 rfl) rfl ?_
  refine wlCallS hC hB rfl co47 rfl rfl (most_ret _ _ hC.holds _ m.crew (Crew.mkIs (x := m.crew) hs3)) ?_; intro w hk hC hB
  refine wlCallS hC hB rfl co46 rfl rfl (greatest_ret _ _ hC.holds bm lm _ _ m hbm hlm hm ((most m.crew))) ?_; intro w hk hC hB
  refine wlVal (opExtract rfl rfl) rfl ?_
  refine wlVal (opExtract rfl rfl) rfl ?_
  refine wlStore 0 (vs := (((gR (lists m) ((most m.crew))).1)).cells) (cs := ((.int .i64 0) :: (Dig.zero.cells ++ []))) (cs' := (((gR (lists m) ((most m.crew))).1)).cells) hC hB rfl rfl rfl sz28 rfl (by simp [Mark.cells, Do.cells, Word.cells]) (by simp [Mark.cells, Do.cells, Word.cells, Value.oneCell']) (by simp [Mark.cells, Do.cells, Word.cells]) (by simp [Mark.cells, Do.cells, Word.cells]) rfl ?_; intro w hC hB
  refine wlVal (opAssign rfl) rfl ?_
  refine wlThen ?_
  refine wcRet ?_
  exact fun ac_ ha => hQ _ _ _ (results2 ha rfl ⟨_, _, (((gR (lists m) ((most m.crew))).1)).cells, rfl, row28, (by simp [Mark.cells, Do.cells, Word.cells]), hB.range (i := 0) (m := 33) rfl (by simp [Mark.cells, Do.cells, Word.cells]), rfl⟩ rfl) ha.df (endS hC hw rfl)

theorem known_ret (G0 : Gh) (w0 : World) (hw : Holds G0 w0) (bm lm : Nat) (om qm : Obj) (m : MSt) (hbm : HasO G0 bm om) (hlm : HasO G0 lm qm) (hm : MarksO G0 om qm lm m) :
    RetS Try.prog 21 #[.pointer (some ⟨bm, 0, none⟩)] G0 w0 (.tuple #[(.agg ((gR (lists m) (some_ m.crew)).1).cells.toArray), (.bool ((gR (lists m) (some_ m.crew)).2))]) := by
  have hC := Cx.refl hw
  have hB : Bxs G0 w0 w0.heap.size [] := Bxs.nil _ _ _
  obtain ⟨v1, e2, hs3, hM4, hi5⟩ := id hm
  have him := hi5
  obtain ⟨A6, cap7, rfl⟩ := hs3.form
  have hF8 : RowG G0 bm 0 ((.int .i64 m.crew.faults) :: ((.slice A6 m.crew.nodes.length cap7) :: ((.int .i64 m.low.seq) :: (m.low.dig.cells ++ ((.map (some lm)) :: []))))) := HasO.row (T := 64) (by rw [← e2]; exact hbm)
  refine callsOf Try.func21 rfl _ Try.ntmps21 rfl _ (argsCons argsNil (t := 0) rfl) ?_; intro Q0 hQ
  refine wcSeq ?_
  refine wcRegion ?_
  refine wlAlloc hC hB zero28 rfl ?_; intro b9 w hk hC hB
  refine wlVal (opAssign rfl) rfl ?_
  refine wlThen ?_
  refine wcSeq ?_
  refine wcSeq ?_
  refine wcRegion ?_
  refine wlVal (opMove rfl) rfl ?_
  refine wlCallS hC hB rfl co32 rfl rfl (none_ret _ _ hC.holds bm lm _ _ m hbm hlm hm) ?_; intro w hk hC hB
  refine wlThen ?_
  refine wcCondF rfl ?_
  refine wcSkip ?_
  refine wcOf ?_
  refine wcSeq ?_
  refine wcRegion ?_
  refine wlVal (opMove rfl) rfl ?_
  refine wlVal (opMove rfl) rfl ?_
  refine wlVal (opNilCheck rfl) rfl ?_
  refine wlVal (opFieldAddr rfl fo64_0) rfl ?_
  refine wlVal (opLoadRow (cs := [(.int .i64 m.crew.faults), (.slice A6 m.crew.nodes.length cap7)]) rfl (RowG.range hC.holds (hF8.part (i := 0) (m := 2) (by simp [Mark.cells, Do.cells, Word.cells]))) row24 rfl) rfl ?_
  refine wlCallS hC hB rfl co48 rfl rfl (some_ret _ _ hC.holds _ m.crew (Crew.mkIs (x := m.crew) hs3)) ?_; intro w hk hC hB
  refine wlCallS hC hB rfl co46 rfl rfl (greatest_ret _ _ hC.holds bm lm _ _ m hbm hlm hm ((some_ m.crew))) ?_; intro w hk hC hB
  refine wlVal (opExtract rfl rfl) rfl ?_
  refine wlVal (opExtract rfl rfl) rfl ?_
  refine wlStore 0 (vs := (((gR (lists m) ((some_ m.crew))).1)).cells) (cs := ((.int .i64 0) :: (Dig.zero.cells ++ []))) (cs' := (((gR (lists m) ((some_ m.crew))).1)).cells) hC hB rfl rfl rfl sz28 rfl (by simp [Mark.cells, Do.cells, Word.cells]) (by simp [Mark.cells, Do.cells, Word.cells, Value.oneCell']) (by simp [Mark.cells, Do.cells, Word.cells]) (by simp [Mark.cells, Do.cells, Word.cells]) rfl ?_; intro w hC hB
  refine wlVal (opAssign rfl) rfl ?_
  refine wlThen ?_
  refine wcRet ?_
  exact fun ac_ ha => hQ _ _ _ (results2 ha rfl ⟨_, _, (((gR (lists m) ((some_ m.crew))).1)).cells, rfl, row28, (by simp [Mark.cells, Do.cells, Word.cells]), hB.range (i := 0) (m := 33) rfl (by simp [Mark.cells, Do.cells, Word.cells]), rfl⟩ rfl) ha.df (endS hC hw rfl)

end Go.Proofs.Ytbmanooiphghmaa
