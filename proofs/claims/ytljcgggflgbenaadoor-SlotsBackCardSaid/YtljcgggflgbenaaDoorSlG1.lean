/- What functions of the slots seat return, part 1. No condition. -/
import Derived.Test.YtljcgggflgbenaaDoorSlG0
import Derived.Test.YtljcgggflgbenaaDoorSlObj
import Derived.Test.YtljcgggflgbenaaDoorGxSlot
set_option linter.all false
namespace Go.Proofs.YtljcgggflgbenaaDoor
open Go Go.Gx Go.RowKit
def silence : Wd := ⟨-1, Dig.zero⟩
def goesI (w : Wd) (v : Int) (d : Dig) : Int := bif decide (v < w.view) then 190 else bif (w.view == v) && !decide (w.dig = d) then 151 else 0
def leaderI (c : Crew) (v : Int) : Int := bif (check c != 0) || decide (v < 0) then 0 else c.nodes.getD (v.toNat % c.nodes.length) 0
theorem check_pos {c : Crew} (h : (check c != 0) = false) : 0 < c.nodes.length := by
  cases hn : c.nodes with
  | cons _ _ => simp
  | nil =>
    exfalso
    have h2 : check c = 0 := by simpa using h
    unfold check at h2
    cases h3 : decide (c.faults < 0) with
    | true => simp [h3] at h2
    | false =>
      cases h4 : decide (2 < c.faults) with
      | true => simp [h4] at h2
      | false =>
        have h3 := of_decide_eq_false h3
        have h4 := of_decide_eq_false h4
        have h5 : c.faults = 0 ∨ c.faults = 1 ∨ c.faults = 2 := by omega
        rw [hn] at h2
        rcases h5 with h5 | h5 | h5 <;> rw [h5] at h2 <;> exact absurd h2 (by decide)
theorem tmod_len {v : Int} {n : Nat} (hn : 0 < n) (hv : decide (v < 0) = false) : Int.tmod v (n : Int) = ((v.toNat % n : Nat) : Int) := by
  have hv := of_decide_eq_false hv
  have : v = ((v.toNat : Nat) : Int) := by omega
  rw [this, Int.toNat_natCast]; rfl
def cntK (x : SlotS) (ld : Int) (l : List Int) : Nat := l.countP (fun k => decide (mget x.pre k = some x.last) && (k != ld))
theorem cntK_step {x : SlotS} {ld k : Int} {a b : List Int} {c t : Nat} {p q : Bool} {y : Wd} (h : c + cntK x ld (a ++ k :: b) = t) (hy : mget x.pre k = some y) (hp : decide (y = x.last) = p) (hq : p = true → (k != ld) = q) : (bif p && q then c + 1 else c) + cntK x ld (a ++ b) = t := by
  rw [← h]
  unfold cntK
  rw [List.countP_append, List.countP_append, List.countP_cons, hy]
  have e : decide (some y = some x.last) = p := by rw [← hp]; congr 1; simp
  rw [e]
  cases p with
  | false => simp
  | true => rw [hq rfl]; cases q <;> simp; omega
theorem wrap_inc (c : Nat) : IntKind.wrap .i64 (IntKind.wrap .i64 (c : Int) + 1) = IntKind.wrap .i64 (((c + 1 : Nat) : Int)) := by
  simp only [IntKind.wrap, IntKind.bits, IntKind.signed]; simp; omega
def readyI (c : Crew) (x : SlotS) : Bool := bif decide (x.last = silence) then false else decide (IntKind.wrap .i64 (2 * c.faults) ≤ IntKind.wrap .i64 (cntK x (leaderI c x.last.view) (x.pre.map (·.1)) : Int))
def preparedI (s : SlS) (k : Int) : Bool := match s.f k with | none => false | some x => readyI s.crew x
def atI (s : SlS) (k : Int) : Stand × Bool := match s.f k with | none => (Stand.mk 0 Dig.zero 0, false) | some x => bif decide (x.last = silence) then (Stand.mk 0 Dig.zero 0, false) else (Stand.mk k x.last.dig x.last.view, true)
def cntC (x : SlotS) (l : List Int) : Nat := l.countP (fun k => decide (mget x.com k = some x.last))
theorem cntC_step {x : SlotS} {k : Int} {a b : List Int} {c t : Nat} {p : Bool} {y : Wd} (h : c + cntC x (a ++ k :: b) = t) (hy : mget x.com k = some y) (hp : decide (y = x.last) = p) : (bif p then c + 1 else c) + cntC x (a ++ b) = t := by
  rw [← h]
  unfold cntC
  rw [List.countP_append, List.countP_append, List.countP_cons, hy]
  have e : decide (some y = some x.last) = p := by rw [← hp]; congr 1; simp
  rw [e]
  cases p <;> simp; omega
def committedI (s : SlS) (k : Int) : Bool := match s.f k with | none => false | some x => bif !readyI s.crew x then false else decide (most s.crew ≤ IntKind.wrap .i64 (cntC x (x.com.map (·.1)) : Int))
theorem comm_fin {s : SlS} {k : Int} {x : SlotS} {n : Int} {c : Nat} {lf : List Int} (h8 : s.f k = some x) (h9 : readyI s.crew x = true) (hn : n = IntKind.wrap .i64 ((c : Nat) : Int)) (hc : c + cntC x lf = cntC x (x.com.map (·.1))) (h0 : lf = []) :
    decide (most s.crew ≤ n) = committedI s k := by
  subst h0
  have hc : c = cntC x (x.com.map (·.1)) := hc
  simp only [committedI, h8, h9, Bool.not_true, cond_false]; rw [hn, hc]
def newS : SlotS := ⟨silence, silence, [], [], []⟩
def lookS (c : Crew) (t : SlotS) : SlotS := bif readyI c t then SlotS.mk t.last t.last t.pre t.com t.q else t
theorem slS_self {s : SlS} {k : Int} {t : SlotS} (h : s.f k = some t) : SlS.mk s.crew s.low (upd s.f k t) = s := by
  have : upd s.f k t = s.f := by
    funext x; unfold upd; split
    · rename_i e; subst e; exact h.symm
    · rfl
  rw [this]
theorem zne : ((0 : Int) != 0) = false := rfl
def wordOf (m : List (Int × Wd)) (n : Int) : Wd := (mget m n).getD (Wd.mk 0 Dig.zero)
def saysI (m : List (Int × Wd)) (node view : Int) (d : Dig) : Int := bif (mget m node).isSome then goesI (wordOf m node) view d else 0
def hearI (pre : Bool) (s : SlS) (node view k : Int) (d : Dig) (leads : Bool) : SlS × Int :=
  bif !has s.crew node then (s, 110) else bif !viewB view then (s, 190) else bif !leads && (leaderI s.crew view == node) then (s, 2) else
  match s.f k with
  | none => (s, 150)
  | some x =>
    bif pre then bif saysI x.pre node view d != 0 then (s, saysI x.pre node view d) else (SlS.mk s.crew s.low (upd s.f k (SlotS.mk x.last x.prep (mput x.pre node (Wd.mk view d)) x.com x.q)), 0)
    else bif saysI x.com node view d != 0 then (s, saysI x.com node view d) else (SlS.mk s.crew s.low (upd s.f k (SlotS.mk x.last x.prep x.pre (mput x.com node (Wd.mk view d)) x.q)), 0)
theorem upd_at (f : Int → Option SlotS) (k : Int) (t : SlotS) : upd f k t k = some t := by simp [upd]
theorem hearI_dead {pre : Bool} {s : SlS} {node view k : Int} {d : Dig} {leads : Bool} (h : ((hearI pre s node view k d leads).2 == 0) = true) (hn : (hearI pre s node view k d leads).1.f k = none) : False := by
  revert h hn
  unfold hearI
  cases has s.crew node <;> cases viewB view <;> cases (!leads && (leaderI s.crew view == node)) <;> simp only [Bool.not_true, Bool.not_false, cond_true, cond_false] <;> try (intro h _; simp at h; done)
  cases hk : s.f k with
  | none => intro h _; simp at h
  | some x =>
    simp only []
    cases pre <;> simp only [cond_true, cond_false]
    · cases saysI x.com node view d != 0 <;> simp only [cond_true, cond_false] <;> intro _ hn
      · rw [upd_at] at hn; cases hn
      · rw [hk] at hn; cases hn
    · cases saysI x.pre node view d != 0 <;> simp only [cond_true, cond_false] <;> intro _ hn
      · rw [upd_at] at hn; cases hn
      · rw [hk] at hn; cases hn
def prepI (s : SlS) (node view k : Int) (d : Dig) : SlS × Int :=
  bif (hearI true s node view k d false).2 == 0 then
    match (hearI true s node view k d false).1.f k with
    | none => hearI true s node view k d false
    | some t => (SlS.mk (hearI true s node view k d false).1.crew (hearI true s node view k d false).1.low (upd (hearI true s node view k d false).1.f k (lookS (hearI true s node view k d false).1.crew t)), (hearI true s node view k d false).2)
  else hearI true s node view k d false
def pAt (f : Int → Option SlotS) (k : Int) : List Stand := match f k with | none => [] | some x => bif decide (x.prep = silence) then [] else [Stand.mk k x.prep.dig x.prep.view]
def pI (f : Int → Option SlotS) (k : Int) : Nat → List Stand
  | 0 => []
  | i + 1 => pI f k i ++ pAt f (k + i)
def qAt (f : Int → Option SlotS) (k : Int) : List Stand := match f k with | none => [] | some x => x.q
def qI (f : Int → Option SlotS) (k : Int) : Nat → List Stand
  | 0 => []
  | i + 1 => qI f k i ++ qAt f (k + i)
theorem pI_len (f : Int → Option SlotS) (k : Int) : ∀ i, (pI f k i).length ≤ i
  | 0 => Nat.le_refl _
  | i + 1 => by
    have := pI_len f k i
    have h : (pAt f (k + i)).length ≤ 1 := by
      unfold pAt; split
      · simp
      · rename_i x _; cases decide (x.prep = silence) <;> simp
    simp only [pI, List.length_append]; omega
theorem qI_len (f : Int → Option SlotS) (k : Int) (h : ∀ k t, f k = some t → t.q.length ≤ 1000000) : ∀ i, (qI f k i).length ≤ 1000000 * i
  | 0 => Nat.le_refl _
  | i + 1 => by
    have := qI_len f k h i
    have h : (qAt f (k + i)).length ≤ 1000000 := by
      unfold qAt; split
      · simp
      · rename_i x hx; exact h _ _ hx
    simp only [qI, List.length_append]; omega
theorem pI_step {f : Int → Option SlotS} {l k : Int} {i : Nat} {o : List Stand} (hA : o = pI f l i) (hk : k = l + i) : o ++ pAt f k = pI f l (i + 1) := by rw [hA, hk]; rfl
theorem qI_step {f : Int → Option SlotS} {l k : Int} {i : Nat} {o : List Stand} (hA : o = qI f l i) (hk : k = l + i) : o ++ qAt f k = qI f l (i + 1) := by rw [hA, hk]; rfl
theorem lowk0 {l : Int} (h : 0 ≤ l ∧ l ≤ 9007199254740983) : IntKind.wrap .i64 (l + 1) = l + 1 + ((0 : Nat) : Int) := by rw [IntWalk.i64_in _ (by omega)]; simp
theorem lowk_lt {l k : Int} {i : Nat} (h : 0 ≤ l ∧ l ≤ 9007199254740983) (hk : k = l + 1 + i) (hc : decide (k ≤ IntKind.wrap .i64 (l + 8)) = true) : i + 1 ≤ 8 := by
  have hc := of_decide_eq_true hc; rw [IntWalk.i64_in _ (by omega)] at hc; omega
theorem lowk_step {l k : Int} {i : Nat} (h : 0 ≤ l ∧ l ≤ 9007199254740983) (hk : k = l + 1 + i) (hc : decide (k ≤ IntKind.wrap .i64 (l + 8)) = true) : IntKind.wrap .i64 (k + 1) = l + 1 + ((i + 1 : Nat) : Int) := by
  have := lowk_lt h hk hc; rw [IntWalk.i64_in _ (by omega)]; omega
theorem lowk_end {l k : Int} {i : Nat} {α : Type} {o : α} {g : Nat → α} (h : 0 ≤ l ∧ l ≤ 9007199254740983) (hi : i ≤ 8) (hk : k = l + 1 + i) (hA : o = g i) (hc : decide (k ≤ IntKind.wrap .i64 (l + 8)) = false) : o = g 8 := by
  have hc := of_decide_eq_false hc; rw [IntWalk.i64_in _ (by omega)] at hc
  have : i = 8 := by omega
  rw [hA, this]
theorem ready_fin {cr : Crew} {x : SlotS} {n : Int} {c : Nat} {lf : List Int} (h9 : decide (x.last = silence) = false) (hn : n = IntKind.wrap .i64 ((c : Nat) : Int)) (hc : c + cntK x (leaderI cr x.last.view) lf = cntK x (leaderI cr x.last.view) (x.pre.map (·.1))) (h0 : lf = []) :
    decide (IntKind.wrap .i64 (2 * cr.faults) ≤ n) = readyI cr x := by
  subst h0
  have hc : c = cntK x (leaderI cr x.last.view) (x.pre.map (·.1)) := hc
  simp only [readyI, h9, cond_false]; rw [hn, hc]
theorem fo63_0 : fieldOk Tryd.prog 63 0 0 = true := by kernel_rfl
theorem fo63_1 : fieldOk Tryd.prog 63 1 1 = true := by kernel_rfl
theorem eg38 : Tryd.prog.eqGuardType Tryd.prog.depth 38 = false := by kernel_rfl
theorem fo66_0 : fieldOk Tryd.prog 66 0 0 = true := by kernel_rfl
theorem row63 : rowOk Tryd.prog 63 33 = true := by kernel_rfl
theorem eg63 : Tryd.prog.eqGuardType Tryd.prog.depth 63 = false := by kernel_rfl
theorem fa63 : fieldsAre Tryd.prog 63 [(3, 0), (38, 1)] = true := by kernel_rfl
theorem fo70_0 : fieldOk Tryd.prog 70 0 0 = true := by kernel_rfl
theorem co50 : callOk Tryd.prog 50 = true := by kernel_rfl
theorem fo66_2 : fieldOk Tryd.prog 66 2 66 = true := by kernel_rfl
theorem one64 : oneOk Tryd.prog 64 = true := by kernel_rfl
theorem mk64 : mapKV Tryd.prog 64 3 63 = true := by kernel_rfl
theorem zero63 : (Tryd.prog.info? 63).bind (fun i => i.zero.map Value.cells) = some (((.int .i64 0) :: (Dig.zero.cells ++ [])) : List Value).toArray := by kernel_rfl
theorem sz63 : (Tryd.prog.info? 63).map (·.size) = some 33 := by kernel_rfl
theorem ip24 : isPtr Tryd.prog 24 = true := by kernel_rfl
theorem fo70_2 : fieldOk Tryd.prog 70 2 3 = true := by kernel_rfl
theorem one68 : oneOk Tryd.prog 68 = true := by kernel_rfl
theorem mk68 : mapKV Tryd.prog 68 3 59 = true := by kernel_rfl
theorem co32 : callOk Tryd.prog 32 = true := by kernel_rfl
theorem fo70_1 : fieldOk Tryd.prog 70 1 2 = true := by kernel_rfl
theorem zv59 : (Tryd.prog.info? 59).bind (fun i => i.zero) = some (.pointer none) := by kernel_rfl
theorem co28 : callOk Tryd.prog 28 = true := by kernel_rfl
theorem ip59 : isPtr Tryd.prog 59 = true := by kernel_rfl
theorem co29 : callOk Tryd.prog 29 = true := by kernel_rfl
theorem zero43 : (Tryd.prog.info? 43).bind (fun i => i.zero.map Value.cells) = some (((.int .i64 0) :: (Dig.zero.cells ++ ((.int .i64 0) :: []))) : List Value).toArray := by kernel_rfl
theorem so43 : structOk Tryd.prog 43 [(0, 1), (1, 32), (33, 1)] = true := by kernel_rfl
theorem fo66_3 : fieldOk Tryd.prog 66 3 67 = true := by kernel_rfl
theorem co30 : callOk Tryd.prog 30 = true := by kernel_rfl
theorem co25 : callOk Tryd.prog 25 = true := by kernel_rfl
theorem fo66_1 : fieldOk Tryd.prog 66 1 33 = true := by kernel_rfl
theorem elo33 : elemOk Tryd.prog 33 43 34 48 = true := by kernel_rfl
theorem fo66_4 : fieldOk Tryd.prog 66 4 68 = true := by kernel_rfl
theorem one33 : oneOk Tryd.prog 33 = true := by kernel_rfl
theorem eq38 (d : Nat) (x y : Dig) (w : World) : (Op.equalIn (d + 2) 38 (.agg x.cells.toArray) (.agg y.cells.toArray)).run Tryd.prog w = .ok (decide (x = y)) w := run_equalIn_dig by38 x y w
theorem eq63 (d : Nat) (x y : Wd) (w : World) : (Op.equalIn (d + 4) 63 (.agg x.cells.toArray) (.agg y.cells.toArray)).run Tryd.prog w = .ok (decide (x = y)) w := by
  have h : decide (x = y) = ((x.view == y.view) && (decide (x.dig = y.dig) && true)) := by rw [Bool.eq_iff_iff]; cases x; cases y; simp
  rw [h]; exact run_equalIn_fields fa63 ⟨_, _, _, _, run_part_one one3 (v := .int .i64 x.view) (by simp [Wd.cells]), run_part_one one3 (v := .int .i64 y.view) (by simp [Wd.cells]), fun w => run_equalIn_int w _ 3 _ .i64 _ _ ui3, ⟨_, _, _, _, run_part_row' row38 (r := x.dig.cells) (by simp [Wd.cells]), run_part_row' row38 (r := y.dig.cells) (by simp [Wd.cells]), fun w => eq38 _ x.dig y.dig w, rfl, rfl⟩, rfl⟩ w
theorem goes_ret (G0 : Gh) (w0 : World) (hw : Holds G0 w0) (wd : Wd) (v : Int) (d : Dig) :
    RetS Tryd.prog 34 #[.agg wd.cells.toArray, .int .i64 v, .agg d.cells.toArray] G0 w0 (.int .i64 ((goesI wd v d))) := by
  have hC := Cx.refl hw
  have hB : Bxs G0 w0 w0.heap.size [] := Bxs.nil _ _ _
  refine callsOf Tryd.func34 rfl _ Tryd.ntmps34 rfl _ (argsCons (argsCons (argsCons argsNil (t := 0) rfl) (t := 1) rfl) (t := 2) rfl) ?_; intro Q0 hQ
  refine wcSeq ?_
  refine wcRegion ?_
  refine wlBox (cs := wd.cells) hC hB rfl rfl rfl ?_; intro b1 w hk hC hB
  refine wlBox (cs := d.cells) hC hB rfl rfl rfl ?_; intro b2 w hk hC hB
  refine wlVal (opAssign rfl) rfl ?_
  refine wlThen ?_
  refine wcSeq ?_
  refine wcBlock ?_
  refine wcSeq ?_
  refine wcRegion ?_
  refine wlVal (opFieldAddr rfl fo63_0) rfl ?_
  refine wlVal (opLoadOne (v := (.int .i64 wd.view)) rfl (hB.cell (i := 1) rfl (by simp [Word.cells, Stand.cells, Wd.cells, Mark.cells])) one3) rfl ?_
  refine wlVal (opMove rfl) rfl ?_
  refine wlVal (opGtr rfl rfl) rfl ?_
  refine wlVal (opAssign rfl) rfl ?_
  refine wlThen ?_
  cases h3 : decide (v < wd.view)
  · skip
    refine wcCondF rfl ?_
    refine wcSeq ?_
    refine wcRegion ?_
    refine wlVal (opFieldAddr rfl fo63_0) rfl ?_
    refine wlVal (opLoadOne (v := (.int .i64 wd.view)) rfl (hB.cell (i := 1) rfl (by simp [Word.cells, Stand.cells, Wd.cells, Mark.cells])) one3) rfl ?_
    refine wlVal (opMove rfl) rfl ?_
    refine wlVal (opEql rfl rfl) rfl ?_
    refine wlVal (opMove rfl) rfl ?_
    cases h4 : wd.view == v
    · skip
      refine wlOff rfl rfl rfl rfl ?_
      refine wlOff rfl rfl rfl rfl ?_
      refine wlOff rfl rfl rfl rfl ?_
      refine wlOff rfl rfl rfl rfl ?_
      refine wlVal (opPickF rfl rfl) rfl ?_
      refine wlVal (opAssign rfl) rfl ?_
      refine wlThen ?_
      refine wcCondF rfl ?_
      refine wcSkip ?_
      refine wcOf ?_
      refine wcSeq ?_
      refine wcRegion ?_
      refine wlVal (opAssign rfl) rfl ?_
      refine wlThen ?_
      refine wcRet ?_
      exact fun ac_ ha => hQ _ _ _ (results1 ha rfl rfl) ha.df (endS hC hw (by simp only [goesI, h3, h4, cond_true, cond_false, Bool.not_true, Bool.not_false, Bool.and_true, Bool.and_false, Bool.true_and, Bool.false_and, Bool.or_true, Bool.true_or, Bool.or_false, Bool.false_or]))
    · skip
      refine wlOn rfl rfl ?_
      refine wlVal (opFieldAddr rfl fo63_1) rfl ?_
      refine wlOn rfl rfl ?_
      refine wlVal (opLoadRow (cs := wd.dig.cells) rfl (hB.range (i := 1) (m := 32) rfl (by simp [Word.cells, Stand.cells, Wd.cells, Mark.cells])) row38 (by simp [Word.cells, Stand.cells, Wd.cells, Mark.cells])) rfl ?_
      refine wlOn rfl rfl ?_
      refine wlVal (opLoadRow (cs := d.cells) rfl (hB.range (i := 0) (m := 32) rfl (by simp [Word.cells, Stand.cells, Wd.cells, Mark.cells])) row38 (by simp [Word.cells, Stand.cells, Wd.cells, Mark.cells])) rfl ?_
      refine wlOn rfl rfl ?_
      refine wlVal (opNeRow (eq38 _ wd.dig d) eg38 rfl rfl) rfl ?_
      refine wlVal (opPickT rfl rfl) rfl ?_
      refine wlVal (opAssign rfl) rfl ?_
      refine wlThen ?_
      cases h5 : decide (wd.dig = d)
      · skip
        refine wcCondT rfl ?_
        refine wcSeq ?_
        refine wcRegion ?_
        refine wlVal (opAssign rfl) rfl ?_
        refine wlThen ?_
        refine wcRet ?_
        exact fun ac_ ha => hQ _ _ _ (results1 ha rfl rfl) ha.df (endS hC hw (by simp only [goesI, h3, h4, h5, cond_true, cond_false, Bool.not_true, Bool.not_false, Bool.and_true, Bool.and_false, Bool.true_and, Bool.false_and, Bool.or_true, Bool.true_or, Bool.or_false, Bool.false_or]))
      · skip
        refine wcCondF rfl ?_
        refine wcSkip ?_
        refine wcOf ?_
        refine wcSeq ?_
        refine wcRegion ?_
        refine wlVal (opAssign rfl) rfl ?_
        refine wlThen ?_
        refine wcRet ?_
        exact fun ac_ ha => hQ _ _ _ (results1 ha rfl rfl) ha.df (endS hC hw (by simp only [goesI, h3, h4, h5, cond_true, cond_false, Bool.not_true, Bool.not_false, Bool.and_true, Bool.and_false, Bool.true_and, Bool.false_and, Bool.or_true, Bool.true_or, Bool.or_false, Bool.false_or]))
  · skip
    refine wcCondT rfl ?_
    refine wcSeq ?_
    refine wcRegion ?_
    refine wlVal (opAssign rfl) rfl ?_
    refine wlThen ?_
    refine wcRet ?_
    exact fun ac_ ha => hQ _ _ _ (results1 ha rfl rfl) ha.df (endS hC hw (by simp only [goesI, h3, cond_true, cond_false, Bool.not_true, Bool.not_false, Bool.and_true, Bool.and_false, Bool.true_and, Bool.false_and, Bool.or_true, Bool.true_or, Bool.or_false, Bool.false_or]))

theorem leader_ret (G0 : Gh) (w0 : World) (hw : Holds G0 w0) (csc : List Value) (c : Crew) (hc : Rp.Is G0 csc c) (v : Int) :
    RetS Tryd.prog 50 #[.agg csc.toArray, .int .i64 v] G0 w0 (.int .i64 ((leaderI c v))) := by
  have hC := Cx.refl hw
  have hB : Bxs G0 w0 w0.heap.size [] := Bxs.nil _ _ _
  obtain ⟨v1, rfl, hs2⟩ := Crew.opIs hc
  obtain ⟨A3, cap4, rfl⟩ := hs2.form
  refine callsOf Tryd.func50 rfl _ Tryd.ntmps50 rfl _ (argsCons (argsCons argsNil (t := 0) rfl) (t := 1) rfl) ?_; intro Q0 hQ
  refine wcSeq ?_
  refine wcRegion ?_
  refine wlBox (cs := [(.int .i64 c.faults), (.slice A3 c.nodes.length cap4)]) hC hB rfl rfl rfl ?_; intro b5 w hk hC hB
  refine wlVal (opAssign rfl) rfl ?_
  refine wlThen ?_
  refine wcSeq ?_
  refine wcSeq ?_
  refine wcRegion ?_
  refine wlVal (opLoadRow (cs := [(.int .i64 c.faults), (.slice A3 c.nodes.length cap4)]) rfl (hB.range (i := 0) (m := 2) rfl rfl) row53 rfl) rfl ?_
  refine wlCallS hC hB rfl co42 rfl rfl (check_ret _ _ hC.holds _ c (Crew.mkIs (x := c) hs2)) ?_; intro w hk hC hB
  refine wlVal (opNeq rfl rfl) rfl ?_
  refine wlVal (opMove rfl) rfl ?_
  cases h6 : ((check c)) != 0
  · skip
    refine wlOn rfl rfl ?_
    refine wlVal (opMove rfl) rfl ?_
    refine wlOn rfl rfl ?_
    refine wlVal (opLss rfl rfl) rfl ?_
    refine wlVal (opPickF rfl rfl) rfl ?_
    refine wlThen ?_
    cases h7 : decide (v < 0)
    · skip
      refine wcCondF rfl ?_
      refine wcSkip ?_
      refine wcOf ?_
      refine wcSeq ?_
      obtain ⟨x8, hx9⟩ : ∃ y_, c.nodes[(v.toNat % c.nodes.length)]? = some y_ := ⟨_, List.getElem?_eq_getElem (Nat.mod_lt _ (check_pos h6))⟩
      obtain ⟨b10, o11, row12, hA15, hr13, hi14⟩ := hs2.elem hx9; subst hA15
      obtain rfl := hi14
      refine wcDraw fmix (by kernel_rfl) (by kernel_rfl) (vAt [(fun _ v_ => v_ = (.pointer (some ⟨b5, 1, none⟩))), (fun _ v_ => v_ = (.slice (some ⟨b10, o11, none⟩) c.nodes.length cap4)), (fun _ v_ => v_ = (.int .i64 v)), (fun _ v_ => v_ = (.pointer (some ⟨b5, 1, none⟩))), (fun _ v_ => v_ = (.slice (some ⟨b10, o11, none⟩) c.nodes.length cap4)), (fun _ v_ => v_ = (.int .i64 (((c.nodes.length : Nat) : Int)))), (fun _ v_ => v_ = (.int .i64 ((((v.toNat % c.nodes.length) : Nat) : Int)))), (fun _ v_ => v_ = (.pointer (some ⟨b10, o11 + ((v.toNat % c.nodes.length)) * 1, none⟩))), (fun _ v_ => v_ = (.int .i64 x8)), (fun _ v_ => v_ = (.int .i64 x8))]) (fun _ _ G' w => Cx w0 G0 G' w ∧ Bxs G' w w0.heap.size [(b5, 53, [(.int .i64 c.faults), (.slice (some ⟨b10, o11, none⟩) c.nodes.length cap4)])] ∧ GLe G0 G') G0 (vAt_mono ⟨fun _ _ _ _ h => h, fun _ _ _ _ h => h, fun _ _ _ _ h => h, fun _ _ _ _ h => h, fun _ _ _ _ h => h, fun _ _ _ _ h => h, fun _ _ _ _ h => h, fun _ _ _ _ h => h, fun _ _ _ _ h => h, fun _ _ _ _ h => h, trivial⟩) (fun _ _ => ⟨hC.drew, hB.drew, fun _ _ h => h⟩) ?_ ?_
      · refine dsNone (j := 1) rfl ?_ ?_
        · intro done G w ac_ hd hp hn ⟨hC, hB, hg⟩ hM
          have f2 : ac_.tmps[2]? = some (.pointer (some ⟨b5, 0, none⟩)) := hM.old0 rfl rfl
          have hF : Fr 21 ac_ (Env.nil.put 2 (.pointer (some ⟨b5, 0, none⟩))) := (hM.fr.add f2)
          exact OpVal.draw hF (opFieldAddr rfl fo53_1) ⟨G, fun _ _ h => h, ⟨hC, hB, hg⟩, rfl⟩
        refine dsNone (j := 2) rfl ?_ ?_
        · intro done G w ac_ hd hp hn ⟨hC, hB, hg⟩ hM
          have f12 : ac_.tmps[12]? = some (.pointer (some ⟨b5, 1, none⟩)) := hM.eqv 0 rfl (hp 0 rfl) rfl rfl
          have hF : Fr 21 ac_ (Env.nil.put 12 (.pointer (some ⟨b5, 1, none⟩))) := (hM.fr.add f12)
          exact OpVal.draw hF (opLoadOne (v := (.slice (some ⟨b10, o11, none⟩) c.nodes.length cap4)) rfl (hB.cell (i := 0) rfl rfl) one51) ⟨G, fun _ _ h => h, ⟨hC, hB, hg⟩, rfl⟩
        refine dsNone (j := 3) rfl ?_ ?_
        · intro done G w ac_ hd hp hn ⟨hC, hB, hg⟩ hM
          have f1 : ac_.tmps[1]? = some (.int .i64 v) := hM.old0 rfl rfl
          have hF : Fr 21 ac_ (Env.nil.put 1 (.int .i64 v)) := (hM.fr.add f1)
          exact OpVal.draw hF (opMove rfl) ⟨G, fun _ _ h => h, ⟨hC, hB, hg⟩, rfl⟩
        refine dsNone (j := 4) rfl ?_ ?_
        · intro done G w ac_ hd hp hn ⟨hC, hB, hg⟩ hM
          have f2 : ac_.tmps[2]? = some (.pointer (some ⟨b5, 0, none⟩)) := hM.old0 rfl rfl
          have hF : Fr 21 ac_ (Env.nil.put 2 (.pointer (some ⟨b5, 0, none⟩))) := (hM.fr.add f2)
          exact OpVal.draw hF (opFieldAddr rfl fo53_1) ⟨G, fun _ _ h => h, ⟨hC, hB, hg⟩, rfl⟩
        refine dsNone (j := 5) rfl ?_ ?_
        · intro done G w ac_ hd hp hn ⟨hC, hB, hg⟩ hM
          have f15 : ac_.tmps[15]? = some (.pointer (some ⟨b5, 1, none⟩)) := hM.eqv 3 rfl (hp 3 rfl) rfl rfl
          have hF : Fr 21 ac_ (Env.nil.put 15 (.pointer (some ⟨b5, 1, none⟩))) := (hM.fr.add f15)
          exact OpVal.draw hF (opLoadOne (v := (.slice (some ⟨b10, o11, none⟩) c.nodes.length cap4)) rfl (hB.cell (i := 0) rfl rfl) one51) ⟨G, fun _ _ h => h, ⟨hC, hB, hg⟩, rfl⟩
        refine dsNone (j := 6) rfl ?_ ?_
        · intro done G w ac_ hd hp hn ⟨hC, hB, hg⟩ hM
          have f16 : ac_.tmps[16]? = some (.slice (some ⟨b10, o11, none⟩) c.nodes.length cap4) := hM.eqv 4 rfl (hp 4 rfl) rfl rfl
          have hF : Fr 21 ac_ (Env.nil.put 16 (.slice (some ⟨b10, o11, none⟩) c.nodes.length cap4)) := (hM.fr.add f16)
          exact OpVal.draw hF (opLen rfl isl51) ⟨G, fun _ _ h => h, ⟨hC, hB, hg⟩, rfl⟩
        refine dsNone (j := 7) rfl ?_ ?_
        · intro done G w ac_ hd hp hn ⟨hC, hB, hg⟩ hM
          have f14 : ac_.tmps[14]? = some (.int .i64 v) := hM.eqv 2 rfl (hp 2 rfl) rfl rfl
          have f17 : ac_.tmps[17]? = some (.int .i64 (((c.nodes.length : Nat) : Int))) := hM.eqv 5 rfl (hp 5 rfl) rfl rfl
          have hF : Fr 21 ac_ ((Env.nil.put 14 (.int .i64 v)).put 17 (.int .i64 (((c.nodes.length : Nat) : Int)))) := ((hM.fr.add f14).add f17)
          exact OpVal.draw hF (OpVal.cast (v' := .int .i64 (((v.toNat % c.nodes.length) : Nat) : Int)) (opRem rfl rfl (by have q := check_pos h6; omega)) (congrArg (Value.int .i64) (tmod_len (check_pos h6) h7))) ⟨G, fun _ _ h => h, ⟨hC, hB, hg⟩, rfl⟩
        refine dsNone (j := 8) rfl ?_ ?_
        · intro done G w ac_ hd hp hn ⟨hC, hB, hg⟩ hM
          have f13 : ac_.tmps[13]? = some (.slice (some ⟨b10, o11, none⟩) c.nodes.length cap4) := hM.eqv 1 rfl (hp 1 rfl) rfl rfl
          have f18 : ac_.tmps[18]? = some (.int .i64 ((((v.toNat % c.nodes.length) : Nat) : Int))) := hM.eqv 6 rfl (hp 6 rfl) rfl rfl
          have hF : Fr 21 ac_ ((Env.nil.put 13 (.slice (some ⟨b10, o11, none⟩) c.nodes.length cap4)).put 18 (.int .i64 ((((v.toNat % c.nodes.length) : Nat) : Int)))) := ((hM.fr.add f13).add f18)
          exact OpVal.draw hF (opIndexAddr rfl rfl slo51 (Nat.mod_lt _ (check_pos h6))) ⟨G, fun _ _ h => h, ⟨hC, hB, hg⟩, rfl⟩
        refine dsNone (j := 9) rfl ?_ ?_
        · intro done G w ac_ hd hp hn ⟨hC, hB, hg⟩ hM
          replace hr13 := hr13.mono hg
          have f19 : ac_.tmps[19]? = some (.pointer (some ⟨b10, o11 + ((v.toNat % c.nodes.length)) * 1, none⟩)) := hM.eqv 7 rfl (hp 7 rfl) rfl rfl
          have hF : Fr 21 ac_ (Env.nil.put 19 (.pointer (some ⟨b10, o11 + ((v.toNat % c.nodes.length)) * 1, none⟩))) := (hM.fr.add f19)
          exact OpVal.draw hF (opLoadOne (v := (.int .i64 x8)) rfl (RowG.cell0 hC.holds hr13 rfl) one3) ⟨G, fun _ _ h => h, ⟨hC, hB, hg⟩, rfl⟩
        refine dsNone (j := 10) rfl ?_ ?_
        · intro done G w ac_ hd hp hn ⟨hC, hB, hg⟩ hM
          have f20 : ac_.tmps[20]? = some (.int .i64 x8) := hM.eqv 8 rfl (hp 8 rfl) rfl rfl
          have hF : Fr 21 ac_ (Env.nil.put 20 (.int .i64 x8)) := (hM.fr.add f20)
          exact OpVal.draw hF (opAssign rfl) ⟨G, fun _ _ h => h, ⟨hC, hB, hg⟩, rfl⟩
        exact dsNil
      · intro done G w ac_ hall ⟨hC, hB, hg⟩ hM
        replace hs2 := hs2.mono hg
        replace hr13 := hr13.mono hg
        have f4 : ac_.tmps[4]? = some (.int .i64 x8) := hM.eqv 9 rfl (hall 9 (by decide)) rfl rfl
        refine ⟨(Env.nil.put 4 (.int .i64 x8)), (hM.fr.add f4), ?_⟩
        clear hM hall
        refine wcOf ?_
        refine wcRet ?_
        exact fun ac_ ha => hQ _ _ _ (results1 ha rfl rfl) ha.df (endS hC hw (by simp only [leaderI, h6, h7, cond_true, cond_false, Bool.not_true, Bool.not_false, Bool.or_true, Bool.true_or, Bool.or_false, Bool.false_or]; rw [List.getD_eq_getElem?_getD, hx9]; rfl))
    · skip
      refine wcCondT rfl ?_
      refine wcSeq ?_
      refine wcRegion ?_
      refine wlVal (opAssign rfl) rfl ?_
      refine wlThen ?_
      refine wcRet ?_
      exact fun ac_ ha => hQ _ _ _ (results1 ha rfl rfl) ha.df (endS hC hw (by simp only [leaderI, h6, h7, cond_true, cond_false, Bool.not_true, Bool.not_false, Bool.or_true, Bool.true_or, Bool.or_false, Bool.false_or]))
  · skip
    refine wlOff rfl rfl rfl rfl ?_
    refine wlOff rfl rfl rfl rfl ?_
    refine wlVal (opPickT rfl rfl) rfl ?_
    refine wlThen ?_
    refine wcCondT rfl ?_
    refine wcSeq ?_
    refine wcRegion ?_
    refine wlVal (opAssign rfl) rfl ?_
    refine wlThen ?_
    refine wcRet ?_
    exact fun ac_ ha => hQ _ _ _ (results1 ha rfl rfl) ha.df (endS hC hw (by simp only [leaderI, h6, cond_true, cond_false, Bool.not_true, Bool.not_false, Bool.or_true, Bool.true_or, Bool.or_false, Bool.false_or]))

theorem ready_ret (G0 : Gh) (w0 : World) (hw : Holds G0 w0) (bs ls : Nat) (vs : Value) (s : SlS) (hbs : HasO G0 bs (.cells [.int .i64 s.crew.faults, vs, .int .i64 s.low, .map (some ls)].toArray 70 (0, 0))) (hns : Sl G0 vs s.crew.nodes) (rx : SlotB) (x : SlotS) (hrx : HasL G0 rx.blocks) (hx : SlotO G0 rx x) (hsil : RowG G0 0 0 silence.cells) :
    RetS Tryd.prog 29 #[.pointer (some ⟨bs, 0, none⟩), .pointer (some ⟨rx.p, 0, none⟩)] G0 w0 (.bool ((readyI s.crew x))) := by
  have hC := Cx.refl hw
  have hB : Bxs G0 w0 w0.heap.size [] := Bxs.nil _ _ _
  obtain ⟨A1, cap2, rfl⟩ := hns.form
  have hF3 := hbs.row
  have hF4 := hx.row hrx
  have hM5 := hx.pre
  have hM6 := hx.com
  have hl7 := hrx.m1
  have hl8 := hrx.m2
  have hq9 := hx.qSl hrx
  obtain ⟨A10, cap11, e12⟩ := hq9.form
  rw [e12] at hq9 hF4
  refine callsOf Tryd.func29 rfl _ Tryd.ntmps29 rfl _ (argsCons (argsCons argsNil (t := 0) rfl) (t := 1) rfl) ?_; intro Q0 hQ
  refine wcSeq ?_
  refine wcRegion ?_
  refine wlVal (opAssign rfl) rfl ?_
  refine wlThen ?_
  refine wcSeq ?_
  refine wcSeq ?_
  refine wcDraw fmix (by kernel_rfl) (by kernel_rfl) (vAt [(fun _ v_ => v_ = (.pointer (some ⟨rx.p, 0, none⟩))), (fun _ v_ => v_ = (.pointer (some ⟨rx.p, 0, none⟩))), (fun _ v_ => v_ = (.pointer (some ⟨rx.p, 0, none⟩))), (fun _ v_ => v_ = (.agg x.last.cells.toArray)), (fun _ v_ => v_ = (.agg silence.cells.toArray)), (fun _ v_ => v_ = (.bool (decide (x.last = silence))))]) (fun _ _ G' w => Cx w0 G0 G' w ∧ Bxs G' w w0.heap.size [] ∧ GLe G0 G') G0 (vAt_mono ⟨fun _ _ _ _ h => h, fun _ _ _ _ h => h, fun _ _ _ _ h => h, fun _ _ _ _ h => h, fun _ _ _ _ h => h, fun _ _ _ _ h => h, trivial⟩) (fun _ _ => ⟨hC.drew, hB.drew, fun _ _ h => h⟩) ?_ ?_
  · refine dsNone (j := 1) rfl ?_ ?_
    · intro done G w ac_ hd hp hn ⟨hC, hB, hg⟩ hM
      have f1 : ac_.tmps[1]? = some (.pointer (some ⟨rx.p, 0, none⟩)) := hM.old0 rfl rfl
      have hF : Fr 56 ac_ (Env.nil.put 1 (.pointer (some ⟨rx.p, 0, none⟩))) := (hM.fr.add f1)
      exact OpVal.draw hF (opMove rfl) ⟨G, fun _ _ h => h, ⟨hC, hB, hg⟩, rfl⟩
    refine dsNone (j := 2) rfl ?_ ?_
    · intro done G w ac_ hd hp hn ⟨hC, hB, hg⟩ hM
      have f9 : ac_.tmps[9]? = some (.pointer (some ⟨rx.p, 0, none⟩)) := hM.eqv 0 rfl (hp 0 rfl) rfl rfl
      have hF : Fr 56 ac_ (Env.nil.put 9 (.pointer (some ⟨rx.p, 0, none⟩))) := (hM.fr.add f9)
      exact OpVal.draw hF (opNilCheck rfl) ⟨G, fun _ _ h => h, ⟨hC, hB, hg⟩, rfl⟩
    refine dsNone (j := 3) rfl ?_ ?_
    · intro done G w ac_ hd hp hn ⟨hC, hB, hg⟩ hM
      have f10 : ac_.tmps[10]? = some (.pointer (some ⟨rx.p, 0, none⟩)) := hM.eqv 1 rfl (hp 1 rfl) rfl rfl
      have hF : Fr 56 ac_ (Env.nil.put 10 (.pointer (some ⟨rx.p, 0, none⟩))) := (hM.fr.add f10)
      exact OpVal.draw hF (opFieldAddr rfl fo66_0) ⟨G, fun _ _ h => h, ⟨hC, hB, hg⟩, rfl⟩
    refine dsNone (j := 4) rfl ?_ ?_
    · intro done G w ac_ hd hp hn ⟨hC, hB, hg⟩ hM
      replace hF4 := hF4.mono hg
      have f11 : ac_.tmps[11]? = some (.pointer (some ⟨rx.p, 0, none⟩)) := hM.eqv 2 rfl (hp 2 rfl) rfl rfl
      have hF : Fr 56 ac_ (Env.nil.put 11 (.pointer (some ⟨rx.p, 0, none⟩))) := (hM.fr.add f11)
      exact OpVal.draw hF (opLoadRow (cs := x.last.cells) rfl (RowG.range hC.holds (hF4.part (i := 0) (m := 33) (by simp [Word.cells, Stand.cells, Wd.cells, Mark.cells]))) row63 (by simp [Word.cells, Stand.cells, Wd.cells, Mark.cells])) ⟨G, fun _ _ h => h, ⟨hC, hB, hg⟩, rfl⟩
    refine dsNone (j := 5) rfl ?_ ?_
    · intro done G w ac_ hd hp hn ⟨hC, hB, hg⟩ hM
      replace hsil := hsil.mono hg
      have hF : Fr 56 ac_ Env.nil := hM.fr
      exact OpVal.draw hF (opLoadRow (cs := silence.cells) rfl (RowG.range hC.holds (hsil.part (i := 0) (m := 33) (by simp [Word.cells, Stand.cells, Wd.cells, Mark.cells]))) row63 (by simp [Word.cells, Stand.cells, Wd.cells, Mark.cells])) ⟨G, fun _ _ h => h, ⟨hC, hB, hg⟩, rfl⟩
    refine dsNone (j := 6) rfl ?_ ?_
    · intro done G w ac_ hd hp hn ⟨hC, hB, hg⟩ hM
      have f12 : ac_.tmps[12]? = some (.agg x.last.cells.toArray) := hM.eqv 3 rfl (hp 3 rfl) rfl rfl
      have f13 : ac_.tmps[13]? = some (.agg silence.cells.toArray) := hM.eqv 4 rfl (hp 4 rfl) rfl rfl
      have hF : Fr 56 ac_ ((Env.nil.put 12 (.agg x.last.cells.toArray)).put 13 (.agg silence.cells.toArray)) := ((hM.fr.add f12).add f13)
      exact OpVal.draw hF (opEqRow (eq63 _ x.last silence) eg63 rfl rfl) ⟨G, fun _ _ h => h, ⟨hC, hB, hg⟩, rfl⟩
    exact dsNil
  · intro done G w ac_ hall ⟨hC, hB, hg⟩ hM
    replace hns := hns.mono hg
    replace hbs := hbs.mono hg
    replace hrx := hrx.mono hg
    replace hx := hx.mono hg
    replace hq9 := hq9.mono hg
    replace hM5 := hM5.mono hg
    replace hM6 := hM6.mono hg
    replace hl7 := hl7.mono hg
    replace hl8 := hl8.mono hg
    replace hF3 := hF3.mono hg
    replace hF4 := hF4.mono hg
    replace hsil := hsil.mono hg
    have f0 : ac_.tmps[0]? = some (.pointer (some ⟨bs, 0, none⟩)) := hM.old0 rfl rfl
    have f1 : ac_.tmps[1]? = some (.pointer (some ⟨rx.p, 0, none⟩)) := hM.old0 rfl rfl
    have f14 : ac_.tmps[14]? = some (.bool (decide (x.last = silence))) := hM.eqv 5 rfl (hall 5 (by decide)) rfl rfl
    refine ⟨(((Env.nil.put 0 (.pointer (some ⟨bs, 0, none⟩))).put 1 (.pointer (some ⟨rx.p, 0, none⟩))).put 14 (.bool (decide (x.last = silence)))), (((hM.fr.add f0).add f1).add f14), ?_⟩
    clear hM hall
    refine wcOf ?_
    cases h13 : decide (x.last = silence)
    · skip
      refine wcCondF rfl ?_
      refine wcSkip ?_
      refine wcOf ?_
      refine wcSeq ?_
      refine wcDraw fmix (by kernel_rfl) (by kernel_rfl) (vAt [(fun _ v_ => v_ = (.pointer (some ⟨bs, 0, none⟩))), (fun _ v_ => v_ = (.pointer (some ⟨bs, 0, none⟩))), (fun _ v_ => v_ = (.pointer (some ⟨bs, 0, none⟩))), (fun _ v_ => v_ = (.agg [(.int .i64 s.crew.faults), (.slice A1 s.crew.nodes.length cap2)].toArray)), (fun _ v_ => v_ = (.pointer (some ⟨rx.p, 0, none⟩))), (fun _ v_ => v_ = (.pointer (some ⟨rx.p, 0, none⟩))), (fun _ v_ => v_ = (.pointer (some ⟨rx.p, 0, none⟩))), (fun _ v_ => v_ = (.pointer (some ⟨rx.p, 0, none⟩))), (fun _ v_ => v_ = (.int .i64 x.last.view)), (fun _ v_ => v_ = (.int .i64 (((leaderI s.crew x.last.view))))), (fun _ v_ => v_ = (.int .i64 0)), (fun _ v_ => v_ = (.int .i64 (((leaderI s.crew x.last.view)))))]) (fun _ _ G' w => Cx w0 G0 G' w ∧ Bxs G' w w0.heap.size [] ∧ GLe G G') G (vAt_mono ⟨fun _ _ _ _ h => h, fun _ _ _ _ h => h, fun _ _ _ _ h => h, fun _ _ _ _ h => h, fun _ _ _ _ h => h, fun _ _ _ _ h => h, fun _ _ _ _ h => h, fun _ _ _ _ h => h, fun _ _ _ _ h => h, fun _ _ _ _ h => h, fun _ _ _ _ h => h, fun _ _ _ _ h => h, trivial⟩) (fun _ _ => ⟨hC.drew, hB.drew, fun _ _ h => h⟩) ?_ ?_
      · refine dsNone (j := 1) rfl ?_ ?_
        · intro done G w ac_ hd hp hn ⟨hC, hB, hg⟩ hM
          have f0 : ac_.tmps[0]? = some (.pointer (some ⟨bs, 0, none⟩)) := hM.old0 rfl rfl
          have hF : Fr 56 ac_ (Env.nil.put 0 (.pointer (some ⟨bs, 0, none⟩))) := (hM.fr.add f0)
          exact OpVal.draw hF (opMove rfl) ⟨G, fun _ _ h => h, ⟨hC, hB, hg⟩, rfl⟩
        refine dsNone (j := 2) rfl ?_ ?_
        · intro done G w ac_ hd hp hn ⟨hC, hB, hg⟩ hM
          have f15 : ac_.tmps[15]? = some (.pointer (some ⟨bs, 0, none⟩)) := hM.eqv 0 rfl (hp 0 rfl) rfl rfl
          have hF : Fr 56 ac_ (Env.nil.put 15 (.pointer (some ⟨bs, 0, none⟩))) := (hM.fr.add f15)
          exact OpVal.draw hF (opNilCheck rfl) ⟨G, fun _ _ h => h, ⟨hC, hB, hg⟩, rfl⟩
        refine dsNone (j := 3) rfl ?_ ?_
        · intro done G w ac_ hd hp hn ⟨hC, hB, hg⟩ hM
          have f16 : ac_.tmps[16]? = some (.pointer (some ⟨bs, 0, none⟩)) := hM.eqv 1 rfl (hp 1 rfl) rfl rfl
          have hF : Fr 56 ac_ (Env.nil.put 16 (.pointer (some ⟨bs, 0, none⟩))) := (hM.fr.add f16)
          exact OpVal.draw hF (opFieldAddr rfl fo70_0) ⟨G, fun _ _ h => h, ⟨hC, hB, hg⟩, rfl⟩
        refine dsNone (j := 4) rfl ?_ ?_
        · intro done G w ac_ hd hp hn ⟨hC, hB, hg⟩ hM
          replace hF3 := hF3.mono hg
          have f17 : ac_.tmps[17]? = some (.pointer (some ⟨bs, 0, none⟩)) := hM.eqv 2 rfl (hp 2 rfl) rfl rfl
          have hF : Fr 56 ac_ (Env.nil.put 17 (.pointer (some ⟨bs, 0, none⟩))) := (hM.fr.add f17)
          exact OpVal.draw hF (opLoadRow (cs := [(.int .i64 s.crew.faults), (.slice A1 s.crew.nodes.length cap2)]) rfl (RowG.range hC.holds (hF3.part (i := 0) (m := 2) rfl)) row53 rfl) ⟨G, fun _ _ h => h, ⟨hC, hB, hg⟩, rfl⟩
        refine dsNone (j := 5) rfl ?_ ?_
        · intro done G w ac_ hd hp hn ⟨hC, hB, hg⟩ hM
          have f1 : ac_.tmps[1]? = some (.pointer (some ⟨rx.p, 0, none⟩)) := hM.old0 rfl rfl
          have hF : Fr 56 ac_ (Env.nil.put 1 (.pointer (some ⟨rx.p, 0, none⟩))) := (hM.fr.add f1)
          exact OpVal.draw hF (opMove rfl) ⟨G, fun _ _ h => h, ⟨hC, hB, hg⟩, rfl⟩
        refine dsNone (j := 6) rfl ?_ ?_
        · intro done G w ac_ hd hp hn ⟨hC, hB, hg⟩ hM
          have f19 : ac_.tmps[19]? = some (.pointer (some ⟨rx.p, 0, none⟩)) := hM.eqv 4 rfl (hp 4 rfl) rfl rfl
          have hF : Fr 56 ac_ (Env.nil.put 19 (.pointer (some ⟨rx.p, 0, none⟩))) := (hM.fr.add f19)
          exact OpVal.draw hF (opNilCheck rfl) ⟨G, fun _ _ h => h, ⟨hC, hB, hg⟩, rfl⟩
        refine dsNone (j := 7) rfl ?_ ?_
        · intro done G w ac_ hd hp hn ⟨hC, hB, hg⟩ hM
          have f20 : ac_.tmps[20]? = some (.pointer (some ⟨rx.p, 0, none⟩)) := hM.eqv 5 rfl (hp 5 rfl) rfl rfl
          have hF : Fr 56 ac_ (Env.nil.put 20 (.pointer (some ⟨rx.p, 0, none⟩))) := (hM.fr.add f20)
          exact OpVal.draw hF (opFieldAddr rfl fo66_0) ⟨G, fun _ _ h => h, ⟨hC, hB, hg⟩, rfl⟩
        refine dsNone (j := 8) rfl ?_ ?_
        · intro done G w ac_ hd hp hn ⟨hC, hB, hg⟩ hM
          have f21 : ac_.tmps[21]? = some (.pointer (some ⟨rx.p, 0, none⟩)) := hM.eqv 6 rfl (hp 6 rfl) rfl rfl
          have hF : Fr 56 ac_ (Env.nil.put 21 (.pointer (some ⟨rx.p, 0, none⟩))) := (hM.fr.add f21)
          exact OpVal.draw hF (opFieldAddr rfl fo63_0) ⟨G, fun _ _ h => h, ⟨hC, hB, hg⟩, rfl⟩
        refine dsNone (j := 9) rfl ?_ ?_
        · intro done G w ac_ hd hp hn ⟨hC, hB, hg⟩ hM
          replace hF4 := hF4.mono hg
          have f22 : ac_.tmps[22]? = some (.pointer (some ⟨rx.p, 0, none⟩)) := hM.eqv 7 rfl (hp 7 rfl) rfl rfl
          have hF : Fr 56 ac_ (Env.nil.put 22 (.pointer (some ⟨rx.p, 0, none⟩))) := (hM.fr.add f22)
          exact OpVal.draw hF (opLoadOne (v := (.int .i64 x.last.view)) rfl (RowG.cell hC.holds hF4 (j := 0) (by simp [Word.cells, Stand.cells, Wd.cells, Mark.cells])) one3) ⟨G, fun _ _ h => h, ⟨hC, hB, hg⟩, rfl⟩
        refine dsNone (j := 10) rfl ?_ ?_
        · intro done G w ac_ hd hp hn ⟨hC, hB, hg⟩ hM
          replace hns := hns.mono hg
          have f18 : ac_.tmps[18]? = some (.agg [(.int .i64 s.crew.faults), (.slice A1 s.crew.nodes.length cap2)].toArray) := hM.eqv 3 rfl (hp 3 rfl) rfl rfl
          have f23 : ac_.tmps[23]? = some (.int .i64 x.last.view) := hM.eqv 8 rfl (hp 8 rfl) rfl rfl
          have hF : Fr 56 ac_ ((Env.nil.put 18 (.agg [(.int .i64 s.crew.faults), (.slice A1 s.crew.nodes.length cap2)].toArray)).put 23 (.int .i64 x.last.view)) := ((hM.fr.add f18).add f23)
          exact drawCallS hF rfl co50 rfl (leader_ret _ _ hC.holds _ s.crew (Crew.mkIs (x := s.crew) hns) x.last.view) (fun w' hk => ⟨G, fun _ _ h => h, ⟨hC.trans hk, hB.ext hk, hg⟩, rfl⟩)
        refine dsNone (j := 11) rfl ?_ ?_
        · intro done G w ac_ hd hp hn ⟨hC, hB, hg⟩ hM
          have hF : Fr 56 ac_ Env.nil := hM.fr
          exact OpVal.draw hF (opAssign rfl) ⟨G, fun _ _ h => h, ⟨hC, hB, hg⟩, rfl⟩
        refine dsNone (j := 12) rfl ?_ ?_
        · intro done G w ac_ hd hp hn ⟨hC, hB, hg⟩ hM
          have f24 : ac_.tmps[24]? = some (.int .i64 (((leaderI s.crew x.last.view)))) := hM.eqv 9 rfl (hp 9 rfl) rfl rfl
          have hF : Fr 56 ac_ (Env.nil.put 24 (.int .i64 (((leaderI s.crew x.last.view))))) := (hM.fr.add f24)
          exact OpVal.draw hF (opAssign rfl) ⟨G, fun _ _ h => h, ⟨hC, hB, hg⟩, rfl⟩
        exact dsNil
      · intro done G w ac_ hall ⟨hC, hB, hg⟩ hM
        replace hns := hns.mono hg
        replace hbs := hbs.mono hg
        replace hrx := hrx.mono hg
        replace hx := hx.mono hg
        replace hq9 := hq9.mono hg
        replace hM5 := hM5.mono hg
        replace hM6 := hM6.mono hg
        replace hl7 := hl7.mono hg
        replace hl8 := hl8.mono hg
        replace hF3 := hF3.mono hg
        replace hF4 := hF4.mono hg
        replace hsil := hsil.mono hg
        have f0 : ac_.tmps[0]? = some (.pointer (some ⟨bs, 0, none⟩)) := hM.old0 rfl rfl
        have f1 : ac_.tmps[1]? = some (.pointer (some ⟨rx.p, 0, none⟩)) := hM.old0 rfl rfl
        have f5 : ac_.tmps[5]? = some (.int .i64 0) := hM.eqv 10 rfl (hall 10 (by decide)) rfl rfl
        have f6 : ac_.tmps[6]? = some (.int .i64 (((leaderI s.crew x.last.view)))) := hM.eqv 11 rfl (hall 11 (by decide)) rfl rfl
        refine ⟨((((Env.nil.put 0 (.pointer (some ⟨bs, 0, none⟩))).put 1 (.pointer (some ⟨rx.p, 0, none⟩))).put 5 (.int .i64 0)).put 6 (.int .i64 (((leaderI s.crew x.last.view))))), ((((hM.fr.add f0).add f1).add f5).add f6), ?_⟩
        clear hM hall
        refine wcOf ?_
        refine wcSeq ?_
        refine wcSeq ?_
        refine wcRegion ?_
        refine wlVal (opMove rfl) rfl ?_
        refine wlVal (opNilCheck rfl) rfl ?_
        refine wlVal (opFieldAddr rfl fo66_2) rfl ?_
        refine wlVal (opLoadOne (v := (.map (some rx.m1))) rfl (RowG.cell hC.holds hF4 (j := 66) (by simp [Word.cells, Stand.cells, Wd.cells, Mark.cells])) one64) rfl ?_
        refine wlRange hM5 (hl7.at_ hC.holds) hC hB rfl mk64 rfl ?_; intro r14 it15 w hC hB hI16
        replace hC : Cx w0 G0 G w ⟨[], [(r14, it15)]⟩ := hC
        replace hB : Bxs G w w0.heap.size [] ⟨[], [(r14, it15)]⟩ := hB
        refine wlThen ?_
        refine wcBlock ?_
        refine WC.sub (wrInd (ι := Int × Nat × Obj × (List Int)) (fun i => match i with | (n, c, it, lf) => lf.length) (fun i G w => match i with | (n, c, it, lf) => Cx w0 G0 G w ⟨[], [(r14, it)]⟩ ∧ Bxs G w w0.heap.size [] ⟨[], [(r14, it)]⟩ ∧ Sl G (.slice A1 s.crew.nodes.length cap2) s.crew.nodes ∧ HasO G bs (.cells [(.int .i64 s.crew.faults), (.slice A1 s.crew.nodes.length cap2), (.int .i64 s.low), (.map (some ls))].toArray 70 (0, 0)) ∧ HasL G rx.blocks ∧ SlotO G rx x ∧ Sl G (.slice A10 x.q.length cap11) x.q ∧ MpO kI G rx.o1 x.pre ∧ MpO kI G rx.o2 x.com ∧ HasO G rx.m1 rx.o1 ∧ HasO G rx.m2 rx.o2 ∧ RowG G bs 0 [(.int .i64 s.crew.faults), (.slice A1 s.crew.nodes.length cap2), (.int .i64 s.low), (.map (some ls))] ∧ RowG G rx.p 0 ((.int .i64 x.last.view) :: (x.last.dig.cells ++ ((.int .i64 x.prep.view) :: (x.prep.dig.cells ++ ((.map (some rx.m1)) :: ((.map (some rx.m2)) :: ((.slice A10 x.q.length cap11) :: []))))))) ∧ RowG G 0 0 silence.cells ∧ ItO kI rx.o1 it rx.m1 lf ∧ n = IntKind.wrap .i64 ((c : Nat) : Int) ∧ c + cntK x (leaderI s.crew x.last.view) lf = cntK x (leaderI s.crew x.last.view) (x.pre.map (·.1))) (fun i => match i with | (n, c, it, lf) => (((((Env.nil.put 0 (.pointer (some ⟨bs, 0, none⟩))).put 1 (.pointer (some ⟨rx.p, 0, none⟩))).put 5 (.int .i64 n)).put 6 (.int .i64 (((leaderI s.crew x.last.view))))).put 29 (.pointer (some ⟨r14, 0, none⟩)))) ?_ (0, 0, it15, (List.map (fun x => x.1) x.pre)) _ _ ⟨hC, hB, hns, hbs, hrx, hx, hq9, hM5, hM6, hl7, hl8, hF3, hF4, hsil, hI16, rfl, (Nat.zero_add _)⟩) (fun _ ha => (((((ha.start.cons ha (t := 0) rfl).cons ha (t := 1) rfl).cons ha (t := 5) rfl).cons ha (t := 6) rfl).cons ha (t := 29) rfl))
        rintro ⟨n, c, it, lf⟩ G w N0 IH0 ⟨hC, hB, hns, hbs, hrx, hx, hq9, hM5, hM6, hl7, hl8, hF3, hF4, hsil, hIit, hn, hc⟩
        show WC _ _ _ _ (((((Env.nil.put 0 (.pointer (some ⟨bs, 0, none⟩))).put 1 (.pointer (some ⟨rx.p, 0, none⟩))).put 5 (.int .i64 n)).put 6 (.int .i64 (((leaderI s.crew x.last.view))))).put 29 (.pointer (some ⟨r14, 0, none⟩))) w
        refine wcSeq ?_
        refine wcRegion ?_
        rcases ItO.next (P := Tryd.prog) (ty := _) hM5 hIit (hC.heldAt 0 rfl) (hl7.at_ hC.holds) with ⟨hle17, hr18⟩ | ⟨la19, k20, lb21, v22, it23, w24, hle17, hw25, hr18, hI26, hc27⟩
        · skip
          refine wlNext0 rfl hr18 rfl ?_
          refine wlVal (opExtract rfl rfl) rfl ?_
          refine wlThen ?_
          refine wcSeq ?_
          refine wcCondF rfl ?_
          refine wcExit ?_
          refine wcOf ?_
          refine wcSeq ?_
          refine wcRegion ?_
          refine wlVal (opMove rfl) rfl ?_
          refine wlVal (opMove rfl) rfl ?_
          refine wlVal (opNilCheck rfl) rfl ?_
          refine wlVal (opFieldAddr rfl fo70_0) rfl ?_
          refine wlVal (opFieldAddr rfl fo53_0) rfl ?_
          refine wlVal (opLoadOne (v := (.int .i64 s.crew.faults)) rfl (RowG.cell hC.holds hF3 (j := 0) rfl) one3) rfl ?_
          refine wlVal (opMul rfl rfl) rfl ?_
          refine wlVal (opGeq rfl rfl) rfl ?_
          refine wlVal (opAssign rfl) rfl ?_
          refine wlThen ?_
          refine wcRet ?_
          exact fun ac_ ha => hQ _ _ _ (results1 ha rfl rfl) ha.df (endS hC hw (congrArg Value.bool (ready_fin h13 hn hc hle17)))
        · skip
          refine wlNext1 hC hB (i := 0) rfl rfl hw25 hr18 rfl ?_; intro w hC hB
          replace hC : Cx w0 G0 G w ⟨[], [(r14, it23)]⟩ := hC
          replace hB : Bxs G w w0.heap.size [] ⟨[], [(r14, it23)]⟩ := hB
          refine wlVal (opExtract rfl rfl) rfl ?_
          refine wlThen ?_
          refine wcSeq ?_
          refine wcCondT rfl ?_
          refine wcSkip ?_
          refine wcOf ?_
          refine wcBlock ?_
          refine wcSeq ?_
          refine wcRegion ?_
          obtain ⟨v28, y29, hy30, hv31, hr32⟩ := hc27.entry (keyL_int ui3).inj hM5
          obtain rfl := isWd hv31
          refine wlVal (opEntryH rfl (hr32 _ _ (hC.heldAt 0 rfl) (hl7.at_ hC.holds))) rfl ?_
          refine wlVal (opExtract rfl rfl) rfl ?_
          refine wlVal (opExtract rfl rfl) rfl ?_
          refine wlAlloc hC hB zero63 rfl ?_; intro b33 w hk hC hB
          refine wlVal (opAssign rfl) rfl ?_
          refine wlStore 0 (vs := y29.cells) (cs := ((.int .i64 0) :: (Dig.zero.cells ++ []))) (cs' := y29.cells) hC hB rfl rfl rfl sz63 rfl (by simp [Word.cells, Stand.cells, Wd.cells, Mark.cells]) (by simp [Word.cells, Stand.cells, Wd.cells, Mark.cells, Value.oneCell']) (by simp [Word.cells, Stand.cells, Wd.cells, Mark.cells]) (by simp [Word.cells, Stand.cells, Wd.cells, Mark.cells]) rfl ?_; intro w hC hB
          refine wlThen ?_
          refine wcSeq ?_
          cases h34 : decide (y29 = x.last)
          · skip
            refine wcDraw fmix (by kernel_rfl) (by kernel_rfl) (vAt [(fun _ v_ => v_ = (.agg y29.cells.toArray)), (fun _ v_ => v_ = (.pointer (some ⟨rx.p, 0, none⟩))), (fun _ v_ => v_ = (.pointer (some ⟨rx.p, 0, none⟩))), (fun _ v_ => v_ = (.pointer (some ⟨rx.p, 0, none⟩))), (fun _ v_ => v_ = (.agg x.last.cells.toArray)), (fun _ v_ => v_ = (.bool false)), (fun _ v_ => v_ = (.bool false)), (fun _ v_ => v_ = undef), (fun _ v_ => v_ = undef), (fun _ v_ => v_ = undef), (fun _ v_ => v_ = (.bool false))]) (fun _ _ G' w => Cx w0 G0 G' w ⟨[], [(r14, it23)]⟩ ∧ Bxs G' w w0.heap.size [(b33, 63, y29.cells)] ⟨[], [(r14, it23)]⟩ ∧ GLe G G') G (vAt_mono ⟨fun _ _ _ _ h => h, fun _ _ _ _ h => h, fun _ _ _ _ h => h, fun _ _ _ _ h => h, fun _ _ _ _ h => h, fun _ _ _ _ h => h, fun _ _ _ _ h => h, fun _ _ _ _ h => h, fun _ _ _ _ h => h, fun _ _ _ _ h => h, fun _ _ _ _ h => h, trivial⟩) (fun _ _ => ⟨hC.drew, hB.drew, fun _ _ h => h⟩) ?_ ?_
            · refine dsNone (j := 1) rfl ?_ ?_
              · intro done G w ac_ hd hp hn ⟨hC, hB, hg⟩ hM
                have f8 : ac_.tmps[8]? = some (.pointer (some ⟨b33, 0, none⟩)) := hM.old0 rfl rfl
                have hF : Fr 56 ac_ (Env.nil.put 8 (.pointer (some ⟨b33, 0, none⟩))) := (hM.fr.add f8)
                exact OpVal.draw hF (opLoadRow (cs := y29.cells) rfl (hB.range (i := 0) (m := 33) rfl (by simp [Word.cells, Stand.cells, Wd.cells, Mark.cells])) row63 (by simp [Word.cells, Stand.cells, Wd.cells, Mark.cells])) ⟨G, fun _ _ h => h, ⟨hC, hB, hg⟩, rfl⟩
              refine dsNone (j := 2) rfl ?_ ?_
              · intro done G w ac_ hd hp hn ⟨hC, hB, hg⟩ hM
                have f1 : ac_.tmps[1]? = some (.pointer (some ⟨rx.p, 0, none⟩)) := hM.old0 rfl rfl
                have hF : Fr 56 ac_ (Env.nil.put 1 (.pointer (some ⟨rx.p, 0, none⟩))) := (hM.fr.add f1)
                exact OpVal.draw hF (opMove rfl) ⟨G, fun _ _ h => h, ⟨hC, hB, hg⟩, rfl⟩
              refine dsNone (j := 3) rfl ?_ ?_
              · intro done G w ac_ hd hp hn ⟨hC, hB, hg⟩ hM
                have f36 : ac_.tmps[36]? = some (.pointer (some ⟨rx.p, 0, none⟩)) := hM.eqv 1 rfl (hp 1 rfl) rfl rfl
                have hF : Fr 56 ac_ (Env.nil.put 36 (.pointer (some ⟨rx.p, 0, none⟩))) := (hM.fr.add f36)
                exact OpVal.draw hF (opNilCheck rfl) ⟨G, fun _ _ h => h, ⟨hC, hB, hg⟩, rfl⟩
              refine dsNone (j := 4) rfl ?_ ?_
              · intro done G w ac_ hd hp hn ⟨hC, hB, hg⟩ hM
                have f37 : ac_.tmps[37]? = some (.pointer (some ⟨rx.p, 0, none⟩)) := hM.eqv 2 rfl (hp 2 rfl) rfl rfl
                have hF : Fr 56 ac_ (Env.nil.put 37 (.pointer (some ⟨rx.p, 0, none⟩))) := (hM.fr.add f37)
                exact OpVal.draw hF (opFieldAddr rfl fo66_0) ⟨G, fun _ _ h => h, ⟨hC, hB, hg⟩, rfl⟩
              refine dsNone (j := 5) rfl ?_ ?_
              · intro done G w ac_ hd hp hn ⟨hC, hB, hg⟩ hM
                replace hF4 := hF4.mono hg
                have f38 : ac_.tmps[38]? = some (.pointer (some ⟨rx.p, 0, none⟩)) := hM.eqv 3 rfl (hp 3 rfl) rfl rfl
                have hF : Fr 56 ac_ (Env.nil.put 38 (.pointer (some ⟨rx.p, 0, none⟩))) := (hM.fr.add f38)
                exact OpVal.draw hF (opLoadRow (cs := x.last.cells) rfl (RowG.range hC.holds (hF4.part (i := 0) (m := 33) (by simp [Word.cells, Stand.cells, Wd.cells, Mark.cells]))) row63 (by simp [Word.cells, Stand.cells, Wd.cells, Mark.cells])) ⟨G, fun _ _ h => h, ⟨hC, hB, hg⟩, rfl⟩
              refine dsNone (j := 6) rfl ?_ ?_
              · intro done G w ac_ hd hp hn ⟨hC, hB, hg⟩ hM
                have f35 : ac_.tmps[35]? = some (.agg y29.cells.toArray) := hM.eqv 0 rfl (hp 0 rfl) rfl rfl
                have f39 : ac_.tmps[39]? = some (.agg x.last.cells.toArray) := hM.eqv 4 rfl (hp 4 rfl) rfl rfl
                have hF : Fr 56 ac_ ((Env.nil.put 35 (.agg y29.cells.toArray)).put 39 (.agg x.last.cells.toArray)) := ((hM.fr.add f35).add f39)
                exact OpVal.draw hF (OpVal.cast (opEqRow (eq63 _ y29 x.last) eg63 rfl rfl) (congrArg Value.bool h34)) ⟨G, fun _ _ h => h, ⟨hC, hB, hg⟩, rfl⟩
              refine dsNone (j := 7) rfl ?_ ?_
              · intro done G w ac_ hd hp hn ⟨hC, hB, hg⟩ hM
                have f40 : ac_.tmps[40]? = some (.bool false) := hM.eqv 5 rfl (hp 5 rfl) rfl rfl
                have hF : Fr 56 ac_ (Env.nil.put 40 (.bool false)) := (hM.fr.add f40)
                exact OpVal.draw hF (opMove rfl) ⟨G, fun _ _ h => h, ⟨hC, hB, hg⟩, rfl⟩
              refine dsOff (j := 8) (b' := false) rfl rfl rfl ?_ ?_
              · intro done G w ac_ hd hp hn ⟨hC, hB, hg⟩ hM
                have f41 : ac_.tmps[41]? = some (.bool false) := hM.eqv 6 rfl (hp 6 rfl) rfl rfl
                exact ⟨f41, ⟨hC, hB, hg⟩, rfl⟩
              refine dsOff (j := 9) (b' := false) rfl rfl rfl ?_ ?_
              · intro done G w ac_ hd hp hn ⟨hC, hB, hg⟩ hM
                have f41 : ac_.tmps[41]? = some (.bool false) := hM.eqv 6 rfl (hp 6 rfl) rfl rfl
                exact ⟨f41, ⟨hC, hB, hg⟩, rfl⟩
              refine dsOff (j := 10) (b' := false) rfl rfl rfl ?_ ?_
              · intro done G w ac_ hd hp hn ⟨hC, hB, hg⟩ hM
                have f41 : ac_.tmps[41]? = some (.bool false) := hM.eqv 6 rfl (hp 6 rfl) rfl rfl
                exact ⟨f41, ⟨hC, hB, hg⟩, rfl⟩
              refine dsNone (j := 11) rfl ?_ ?_
              · intro done G w ac_ hd hp hn ⟨hC, hB, hg⟩ hM
                have f41 : ac_.tmps[41]? = some (.bool false) := hM.eqv 6 rfl (hp 6 rfl) rfl rfl
                have f44 : ac_.tmps[44]? = some undef := hM.eqv 9 rfl (hp 9 rfl) rfl rfl
                have hF : Fr 56 ac_ ((Env.nil.put 41 (.bool false)).put 44 undef) := ((hM.fr.add f41).add f44)
                exact OpVal.draw hF (opPickF rfl rfl) ⟨G, fun _ _ h => h, ⟨hC, hB, hg⟩, rfl⟩
              exact dsNil
            · intro done G w ac_ hall ⟨hC, hB, hg⟩ hM
              replace hns := hns.mono hg
              replace hbs := hbs.mono hg
              replace hrx := hrx.mono hg
              replace hx := hx.mono hg
              replace hq9 := hq9.mono hg
              replace hM5 := hM5.mono hg
              replace hM6 := hM6.mono hg
              replace hl7 := hl7.mono hg
              replace hl8 := hl8.mono hg
              replace hI26 := hI26.mono hg
              replace hF3 := hF3.mono hg
              replace hF4 := hF4.mono hg
              replace hsil := hsil.mono hg
              have f0 : ac_.tmps[0]? = some (.pointer (some ⟨bs, 0, none⟩)) := hM.old0 rfl rfl
              have f1 : ac_.tmps[1]? = some (.pointer (some ⟨rx.p, 0, none⟩)) := hM.old0 rfl rfl
              have f5 : ac_.tmps[5]? = some (.int .i64 n) := hM.old0 rfl rfl
              have f6 : ac_.tmps[6]? = some (.int .i64 (((leaderI s.crew x.last.view)))) := hM.old0 rfl rfl
              have f29 : ac_.tmps[29]? = some (.pointer (some ⟨r14, 0, none⟩)) := hM.old0 rfl rfl
              have f45 : ac_.tmps[45]? = some (.bool false) := hM.eqv 10 rfl (hall 10 (by decide)) rfl rfl
              refine ⟨((((((Env.nil.put 0 (.pointer (some ⟨bs, 0, none⟩))).put 1 (.pointer (some ⟨rx.p, 0, none⟩))).put 5 (.int .i64 n)).put 6 (.int .i64 (((leaderI s.crew x.last.view))))).put 29 (.pointer (some ⟨r14, 0, none⟩))).put 45 (.bool false)), ((((((hM.fr.add f0).add f1).add f5).add f6).add f29).add f45), ?_⟩
              clear hM hall
              refine wcOf ?_
              refine wcCondF rfl ?_
              refine wcSkip ?_
              refine wrOf ?_
              exact (IH0 (n, c, it23, (la19 ++ lb21)) _ _ ⟨hC, hB.tail, hns, hbs, hrx, hx, hq9, hM5, hM6, hl7, hl8, hF3, hF4, hsil, hI26, hn, (cntK_step (p := false) (q := false) (by rw [← hle17]; exact hc) hy30 h34 (fun h_ => nomatch h_))⟩ (by rw [hle17]; simp)).sub (fun _ ha => (((((ha.start.cons ha (t := 0) rfl).cons ha (t := 1) rfl).cons ha (t := 5) rfl).cons ha (t := 6) rfl).cons ha (t := 29) rfl))
          · skip
            refine wcDraw fmix (by kernel_rfl) (by kernel_rfl) (vAt [(fun _ v_ => v_ = (.agg y29.cells.toArray)), (fun _ v_ => v_ = (.pointer (some ⟨rx.p, 0, none⟩))), (fun _ v_ => v_ = (.pointer (some ⟨rx.p, 0, none⟩))), (fun _ v_ => v_ = (.pointer (some ⟨rx.p, 0, none⟩))), (fun _ v_ => v_ = (.agg x.last.cells.toArray)), (fun _ v_ => v_ = (.bool true)), (fun _ v_ => v_ = (.bool true)), (fun _ v_ => v_ = (.int .i64 k20)), (fun _ v_ => v_ = (.int .i64 (((leaderI s.crew x.last.view))))), (fun _ v_ => v_ = (.bool (k20 != (((leaderI s.crew x.last.view)))))), (fun _ v_ => v_ = (.bool (k20 != (((leaderI s.crew x.last.view))))))]) (fun _ _ G' w => Cx w0 G0 G' w ⟨[], [(r14, it23)]⟩ ∧ Bxs G' w w0.heap.size [(b33, 63, y29.cells)] ⟨[], [(r14, it23)]⟩ ∧ GLe G G') G (vAt_mono ⟨fun _ _ _ _ h => h, fun _ _ _ _ h => h, fun _ _ _ _ h => h, fun _ _ _ _ h => h, fun _ _ _ _ h => h, fun _ _ _ _ h => h, fun _ _ _ _ h => h, fun _ _ _ _ h => h, fun _ _ _ _ h => h, fun _ _ _ _ h => h, fun _ _ _ _ h => h, trivial⟩) (fun _ _ => ⟨hC.drew, hB.drew, fun _ _ h => h⟩) ?_ ?_
            · refine dsNone (j := 1) rfl ?_ ?_
              · intro done G w ac_ hd hp hn ⟨hC, hB, hg⟩ hM
                have f8 : ac_.tmps[8]? = some (.pointer (some ⟨b33, 0, none⟩)) := hM.old0 rfl rfl
                have hF : Fr 56 ac_ (Env.nil.put 8 (.pointer (some ⟨b33, 0, none⟩))) := (hM.fr.add f8)
                exact OpVal.draw hF (opLoadRow (cs := y29.cells) rfl (hB.range (i := 0) (m := 33) rfl (by simp [Word.cells, Stand.cells, Wd.cells, Mark.cells])) row63 (by simp [Word.cells, Stand.cells, Wd.cells, Mark.cells])) ⟨G, fun _ _ h => h, ⟨hC, hB, hg⟩, rfl⟩
              refine dsNone (j := 2) rfl ?_ ?_
              · intro done G w ac_ hd hp hn ⟨hC, hB, hg⟩ hM
                have f1 : ac_.tmps[1]? = some (.pointer (some ⟨rx.p, 0, none⟩)) := hM.old0 rfl rfl
                have hF : Fr 56 ac_ (Env.nil.put 1 (.pointer (some ⟨rx.p, 0, none⟩))) := (hM.fr.add f1)
                exact OpVal.draw hF (opMove rfl) ⟨G, fun _ _ h => h, ⟨hC, hB, hg⟩, rfl⟩
              refine dsNone (j := 3) rfl ?_ ?_
              · intro done G w ac_ hd hp hn ⟨hC, hB, hg⟩ hM
                have f36 : ac_.tmps[36]? = some (.pointer (some ⟨rx.p, 0, none⟩)) := hM.eqv 1 rfl (hp 1 rfl) rfl rfl
                have hF : Fr 56 ac_ (Env.nil.put 36 (.pointer (some ⟨rx.p, 0, none⟩))) := (hM.fr.add f36)
                exact OpVal.draw hF (opNilCheck rfl) ⟨G, fun _ _ h => h, ⟨hC, hB, hg⟩, rfl⟩
              refine dsNone (j := 4) rfl ?_ ?_
              · intro done G w ac_ hd hp hn ⟨hC, hB, hg⟩ hM
                have f37 : ac_.tmps[37]? = some (.pointer (some ⟨rx.p, 0, none⟩)) := hM.eqv 2 rfl (hp 2 rfl) rfl rfl
                have hF : Fr 56 ac_ (Env.nil.put 37 (.pointer (some ⟨rx.p, 0, none⟩))) := (hM.fr.add f37)
                exact OpVal.draw hF (opFieldAddr rfl fo66_0) ⟨G, fun _ _ h => h, ⟨hC, hB, hg⟩, rfl⟩
              refine dsNone (j := 5) rfl ?_ ?_
              · intro done G w ac_ hd hp hn ⟨hC, hB, hg⟩ hM
                replace hF4 := hF4.mono hg
                have f38 : ac_.tmps[38]? = some (.pointer (some ⟨rx.p, 0, none⟩)) := hM.eqv 3 rfl (hp 3 rfl) rfl rfl
                have hF : Fr 56 ac_ (Env.nil.put 38 (.pointer (some ⟨rx.p, 0, none⟩))) := (hM.fr.add f38)
                exact OpVal.draw hF (opLoadRow (cs := x.last.cells) rfl (RowG.range hC.holds (hF4.part (i := 0) (m := 33) (by simp [Word.cells, Stand.cells, Wd.cells, Mark.cells]))) row63 (by simp [Word.cells, Stand.cells, Wd.cells, Mark.cells])) ⟨G, fun _ _ h => h, ⟨hC, hB, hg⟩, rfl⟩
              refine dsNone (j := 6) rfl ?_ ?_
              · intro done G w ac_ hd hp hn ⟨hC, hB, hg⟩ hM
                have f35 : ac_.tmps[35]? = some (.agg y29.cells.toArray) := hM.eqv 0 rfl (hp 0 rfl) rfl rfl
                have f39 : ac_.tmps[39]? = some (.agg x.last.cells.toArray) := hM.eqv 4 rfl (hp 4 rfl) rfl rfl
                have hF : Fr 56 ac_ ((Env.nil.put 35 (.agg y29.cells.toArray)).put 39 (.agg x.last.cells.toArray)) := ((hM.fr.add f35).add f39)
                exact OpVal.draw hF (OpVal.cast (opEqRow (eq63 _ y29 x.last) eg63 rfl rfl) (congrArg Value.bool h34)) ⟨G, fun _ _ h => h, ⟨hC, hB, hg⟩, rfl⟩
              refine dsNone (j := 7) rfl ?_ ?_
              · intro done G w ac_ hd hp hn ⟨hC, hB, hg⟩ hM
                have f40 : ac_.tmps[40]? = some (.bool true) := hM.eqv 5 rfl (hp 5 rfl) rfl rfl
                have hF : Fr 56 ac_ (Env.nil.put 40 (.bool true)) := (hM.fr.add f40)
                exact OpVal.draw hF (opMove rfl) ⟨G, fun _ _ h => h, ⟨hC, hB, hg⟩, rfl⟩
              refine dsOn (j := 8) rfl rfl ?_ ?_
              · intro done G w ac_ hd hp hn ⟨hC, hB, hg⟩ hM
                have f7 : ac_.tmps[7]? = some (.int .i64 k20) := hM.old0 rfl rfl
                have f41 : ac_.tmps[41]? = some (.bool true) := hM.eqv 6 rfl (hp 6 rfl) rfl rfl
                refine ⟨f41, ?_⟩
                have hF : Fr 56 ac_ (Env.nil.put 7 (.int .i64 k20)) := (hM.fr.add f7)
                exact OpVal.draw hF (opMove rfl) ⟨G, fun _ _ h => h, ⟨hC, hB, hg⟩, rfl⟩
              refine dsOn (j := 9) rfl rfl ?_ ?_
              · intro done G w ac_ hd hp hn ⟨hC, hB, hg⟩ hM
                have f6 : ac_.tmps[6]? = some (.int .i64 (((leaderI s.crew x.last.view)))) := hM.old0 rfl rfl
                have f41 : ac_.tmps[41]? = some (.bool true) := hM.eqv 6 rfl (hp 6 rfl) rfl rfl
                refine ⟨f41, ?_⟩
                have hF : Fr 56 ac_ (Env.nil.put 6 (.int .i64 (((leaderI s.crew x.last.view))))) := (hM.fr.add f6)
                exact OpVal.draw hF (opMove rfl) ⟨G, fun _ _ h => h, ⟨hC, hB, hg⟩, rfl⟩
              refine dsOn (j := 10) rfl rfl ?_ ?_
              · intro done G w ac_ hd hp hn ⟨hC, hB, hg⟩ hM
                have f42 : ac_.tmps[42]? = some (.int .i64 k20) := hM.eqv 7 rfl (hp 7 rfl) rfl rfl
                have f43 : ac_.tmps[43]? = some (.int .i64 (((leaderI s.crew x.last.view)))) := hM.eqv 8 rfl (hp 8 rfl) rfl rfl
                have f41 : ac_.tmps[41]? = some (.bool true) := hM.eqv 6 rfl (hp 6 rfl) rfl rfl
                refine ⟨f41, ?_⟩
                have hF : Fr 56 ac_ ((Env.nil.put 42 (.int .i64 k20)).put 43 (.int .i64 (((leaderI s.crew x.last.view))))) := ((hM.fr.add f42).add f43)
                exact OpVal.draw hF (opNeq rfl rfl) ⟨G, fun _ _ h => h, ⟨hC, hB, hg⟩, rfl⟩
              refine dsNone (j := 11) rfl ?_ ?_
              · intro done G w ac_ hd hp hn ⟨hC, hB, hg⟩ hM
                have f41 : ac_.tmps[41]? = some (.bool true) := hM.eqv 6 rfl (hp 6 rfl) rfl rfl
                have f44 : ac_.tmps[44]? = some (.bool (k20 != (((leaderI s.crew x.last.view))))) := hM.eqv 9 rfl (hp 9 rfl) rfl rfl
                have hF : Fr 56 ac_ ((Env.nil.put 41 (.bool true)).put 44 (.bool (k20 != (((leaderI s.crew x.last.view)))))) := ((hM.fr.add f41).add f44)
                exact OpVal.draw hF (opPickT rfl rfl) ⟨G, fun _ _ h => h, ⟨hC, hB, hg⟩, rfl⟩
              exact dsNil
            · intro done G w ac_ hall ⟨hC, hB, hg⟩ hM
              replace hns := hns.mono hg
              replace hbs := hbs.mono hg
              replace hrx := hrx.mono hg
              replace hx := hx.mono hg
              replace hq9 := hq9.mono hg
              replace hM5 := hM5.mono hg
              replace hM6 := hM6.mono hg
              replace hl7 := hl7.mono hg
              replace hl8 := hl8.mono hg
              replace hI26 := hI26.mono hg
              replace hF3 := hF3.mono hg
              replace hF4 := hF4.mono hg
              replace hsil := hsil.mono hg
              have f0 : ac_.tmps[0]? = some (.pointer (some ⟨bs, 0, none⟩)) := hM.old0 rfl rfl
              have f1 : ac_.tmps[1]? = some (.pointer (some ⟨rx.p, 0, none⟩)) := hM.old0 rfl rfl
              have f5 : ac_.tmps[5]? = some (.int .i64 n) := hM.old0 rfl rfl
              have f6 : ac_.tmps[6]? = some (.int .i64 (((leaderI s.crew x.last.view)))) := hM.old0 rfl rfl
              have f29 : ac_.tmps[29]? = some (.pointer (some ⟨r14, 0, none⟩)) := hM.old0 rfl rfl
              have f45 : ac_.tmps[45]? = some (.bool (k20 != (((leaderI s.crew x.last.view))))) := hM.eqv 10 rfl (hall 10 (by decide)) rfl rfl
              refine ⟨((((((Env.nil.put 0 (.pointer (some ⟨bs, 0, none⟩))).put 1 (.pointer (some ⟨rx.p, 0, none⟩))).put 5 (.int .i64 n)).put 6 (.int .i64 (((leaderI s.crew x.last.view))))).put 29 (.pointer (some ⟨r14, 0, none⟩))).put 45 (.bool (k20 != (((leaderI s.crew x.last.view)))))), ((((((hM.fr.add f0).add f1).add f5).add f6).add f29).add f45), ?_⟩
              clear hM hall
              refine wcOf ?_
              cases h35 : k20 != (((leaderI s.crew x.last.view)))
              · skip
                refine wcCondF rfl ?_
                refine wcSkip ?_
                refine wrOf ?_
                exact (IH0 (n, c, it23, (la19 ++ lb21)) _ _ ⟨hC, hB.tail, hns, hbs, hrx, hx, hq9, hM5, hM6, hl7, hl8, hF3, hF4, hsil, hI26, hn, (cntK_step (p := true) (q := false) (by rw [← hle17]; exact hc) hy30 h34 (fun _ => h35))⟩ (by rw [hle17]; simp)).sub (fun _ ha => (((((ha.start.cons ha (t := 0) rfl).cons ha (t := 1) rfl).cons ha (t := 5) rfl).cons ha (t := 6) rfl).cons ha (t := 29) rfl))
              · skip
                refine wcCondT rfl ?_
                refine wcRegion ?_
                refine wlVal (opMove rfl) rfl ?_
                refine wlVal (opAdd rfl rfl) rfl ?_
                refine wlVal (opAssign rfl) rfl ?_
                refine wlNil ?_
                refine wrOf ?_
                exact (IH0 (IntKind.wrap .i64 (n + 1), (c + 1), it23, (la19 ++ lb21)) _ _ ⟨hC, hB.tail, hns, hbs, hrx, hx, hq9, hM5, hM6, hl7, hl8, hF3, hF4, hsil, hI26, (by rw [hn]; exact wrap_inc c), (cntK_step (p := true) (q := true) (by rw [← hle17]; exact hc) hy30 h34 (fun _ => h35))⟩ (by rw [hle17]; simp)).sub (fun _ ha => (((((ha.start.cons ha (t := 0) rfl).cons ha (t := 1) rfl).cons ha (t := 5) rfl).cons ha (t := 6) rfl).cons ha (t := 29) rfl))
    · skip
      refine wcCondT rfl ?_
      refine wcSeq ?_
      refine wcRegion ?_
      refine wlVal (opAssign rfl) rfl ?_
      refine wlThen ?_
      refine wcRet ?_
      exact fun ac_ ha => hQ _ _ _ (results1 ha rfl rfl) ha.df (endS hC hw (by simp only [readyI, h13, cond_true]))

theorem none_ret (G0 : Gh) (w0 : World) (hw : Holds G0 w0) (bs ls : Nat) (vs : Value) (s : SlS) (hbs : HasO G0 bs (.cells [.int .i64 s.crew.faults, vs, .int .i64 s.low, .map (some ls)].toArray 70 (0, 0))) (hns : Sl G0 vs s.crew.nodes) :
    RetS Tryd.prog 32 #[.pointer (some ⟨bs, 0, none⟩)] G0 w0 (.bool false) := by
  have hC := Cx.refl hw
  have hB : Bxs G0 w0 w0.heap.size [] := Bxs.nil _ _ _
  obtain ⟨A1, cap2, rfl⟩ := hns.form
  have hF3 := hbs.row
  refine callsOf Tryd.func32 rfl _ Tryd.ntmps32 rfl _ (argsCons argsNil (t := 0) rfl) ?_; intro Q0 hQ
  refine wcSeq ?_
  refine wcRegion ?_
  refine wlVal (opAssign rfl) rfl ?_
  refine wlThen ?_
  refine wcSeq ?_
  refine wcRegion ?_
  refine wlVal (opMove rfl) rfl ?_
  refine wlVal (OpVal.cast (v' := .bool false) (opPtrNil ip24 rfl rfl) rfl) rfl ?_
  refine wlVal (opMove rfl) rfl ?_
  refine wlOn rfl rfl ?_
  refine wlVal (opMove rfl) rfl ?_
  refine wlOn rfl rfl ?_
  refine wlVal (opNilCheck rfl) rfl ?_
  refine wlOn rfl rfl ?_
  refine wlVal (opFieldAddr rfl fo70_2) rfl ?_
  refine wlOn rfl rfl ?_
  refine wlVal (opLoadOne (v := (.map (some ls))) rfl (RowG.cell hC.holds hF3 (j := 3) rfl) one68) rfl ?_
  refine wlOn rfl rfl ?_
  refine wlVal (opMapNil mk68 rfl rfl) rfl ?_
  refine wlVal (opPickF rfl rfl) rfl ?_
  refine wlVal (opAssign rfl) rfl ?_
  refine wlThen ?_
  refine wcRet ?_
  exact fun ac_ ha => hQ _ _ _ (results1 ha rfl rfl) ha.df (endS hC hw rfl)

theorem low_ret (G0 : Gh) (w0 : World) (hw : Holds G0 w0) (bs ls : Nat) (vs : Value) (s : SlS) (hbs : HasO G0 bs (.cells [.int .i64 s.crew.faults, vs, .int .i64 s.low, .map (some ls)].toArray 70 (0, 0))) (hns : Sl G0 vs s.crew.nodes) :
    RetS Tryd.prog 25 #[.pointer (some ⟨bs, 0, none⟩)] G0 w0 (.int .i64 s.low) := by
  have hC := Cx.refl hw
  have hB : Bxs G0 w0 w0.heap.size [] := Bxs.nil _ _ _
  obtain ⟨A1, cap2, rfl⟩ := hns.form
  have hF3 := hbs.row
  refine callsOf Tryd.func25 rfl _ Tryd.ntmps25 rfl _ (argsCons argsNil (t := 0) rfl) ?_; intro Q0 hQ
  refine wcSeq ?_
  refine wcRegion ?_
  refine wlVal (opAssign rfl) rfl ?_
  refine wlThen ?_
  refine wcSeq ?_
  refine wcSeq ?_
  refine wcRegion ?_
  refine wlVal (opMove rfl) rfl ?_
  refine wlCallS hC hB rfl co32 rfl rfl (none_ret _ _ hC.holds bs ls _ s hbs hns) ?_; intro w hk hC hB
  refine wlThen ?_
  refine wcCondF rfl ?_
  refine wcSkip ?_
  refine wcOf ?_
  refine wcSeq ?_
  refine wcRegion ?_
  refine wlVal (opMove rfl) rfl ?_
  refine wlVal (opNilCheck rfl) rfl ?_
  refine wlVal (opFieldAddr rfl fo70_1) rfl ?_
  refine wlVal (opLoadOne (v := (.int .i64 s.low)) rfl (RowG.cell hC.holds hF3 (j := 2) rfl) one3) rfl ?_
  refine wlVal (opAssign rfl) rfl ?_
  refine wlThen ?_
  refine wcRet ?_
  exact fun ac_ ha => hQ _ _ _ (results1 ha rfl rfl) ha.df (endS hC hw rfl)

theorem slotAt_ret (G0 : Gh) (w0 : World) (hw : Holds G0 w0) (bs : Nat) (Os : List (Nat × Obj)) (s : SlS) (hOs : HasL G0 Os) (hs : SlO G0 bs Os s) (k : Int) :
    RetG Tryd.prog 28 #[.pointer (some ⟨bs, 0, none⟩), .int .i64 k] G0 w0 (fun G v => SlotRes G s.f k v) := by
  have hC := Cx.refl hw
  have hB : Bxs G0 w0 w0.heap.size [] := Bxs.nil _ _ _
  obtain ⟨v1, l2, om3, D4, H5, e6, hn7, hM8, hH9⟩ := id hs
  obtain ⟨A14, cap15, rfl⟩ := hn7.form
  have hb10 : HasO G0 bs (.cells [(.int .i64 s.crew.faults), (.slice A14 s.crew.nodes.length cap15), (.int .i64 s.low), (.map (some l2))].toArray 70 (0, 0)) := hOs (bs, (.cells [(.int .i64 s.crew.faults), (.slice A14 s.crew.nodes.length cap15), (.int .i64 s.low), (.map (some l2))].toArray 70 (0, 0))) (by rw [e6]; simp)
  have hl11 : HasO G0 l2 om3 := hOs (l2, om3) (by rw [e6]; simp)
  have hL12 : HasL G0 H5 := fun x hx => hOs x (by rw [e6]; simp [hx])
  have hF13 := hb10.row
  refine callsOf Tryd.func28 rfl _ Tryd.ntmps28 rfl _ (argsCons (argsCons argsNil (t := 0) rfl) (t := 1) rfl) ?_; intro Q0 hQ
  refine wcSeq ?_
  refine wcRegion ?_
  refine wlVal (opAssign rfl) rfl ?_
  refine wlThen ?_
  refine wcSeq ?_
  refine wcSeq ?_
  refine wcRegion ?_
  refine wlVal (opMove rfl) rfl ?_
  refine wlCallS hC hB rfl co32 rfl rfl (none_ret _ _ hC.holds bs l2 _ s hb10 hn7) ?_; intro w hk hC hB
  refine wlThen ?_
  refine wcCondF rfl ?_
  refine wcSkip ?_
  refine wcOf ?_
  refine wcSeq ?_
  refine wcRegion ?_
  refine wlVal (opMove rfl) rfl ?_
  refine wlVal (opNilCheck rfl) rfl ?_
  refine wlVal (opFieldAddr rfl fo70_2) rfl ?_
  refine wlVal (opLoadOne (v := (.map (some l2))) rfl (RowG.cell hC.holds hF13 (j := 3) rfl) one68) rfl ?_
  refine wlVal (opMove rfl) rfl ?_
  obtain ⟨v16, hv17, hr18⟩ := hM8.lookup (keyL_int ui3) mk68 zv59 (isPt' _ (Pt.mk none)) k
  obtain rfl := isPt hv17
  refine wlVal (opLookupH rfl rfl (hr18 _ _ (hl11.at_ hC.holds))) rfl ?_
  refine wlVal (opAssign rfl) rfl ?_
  refine wlThen ?_
  refine wcRet ?_
  exact fun ac_ ha => hQ _ _ _ (results1 ha rfl rfl) ha.df (endG hC (hH9.res hL12))

theorem prepared_ret (G0 : Gh) (w0 : World) (hw : Holds G0 w0) (bs : Nat) (Os : List (Nat × Obj)) (s : SlS) (hOs : HasL G0 Os) (hs : SlO G0 bs Os s) (k : Int) (hsil : RowG G0 0 0 silence.cells) :
    RetS Tryd.prog 11 #[.pointer (some ⟨bs, 0, none⟩), .int .i64 k] G0 w0 (.bool ((preparedI s k))) := by
  have hC := Cx.refl hw
  have hB : Bxs G0 w0 w0.heap.size [] := Bxs.nil _ _ _
  obtain ⟨v1, l2, om3, D4, H5, e6, hn7, hM8, hH9⟩ := id hs
  obtain ⟨A14, cap15, rfl⟩ := hn7.form
  have hb10 : HasO G0 bs (.cells [(.int .i64 s.crew.faults), (.slice A14 s.crew.nodes.length cap15), (.int .i64 s.low), (.map (some l2))].toArray 70 (0, 0)) := hOs (bs, (.cells [(.int .i64 s.crew.faults), (.slice A14 s.crew.nodes.length cap15), (.int .i64 s.low), (.map (some l2))].toArray 70 (0, 0))) (by rw [e6]; simp)
  have hl11 : HasO G0 l2 om3 := hOs (l2, om3) (by rw [e6]; simp)
  have hL12 : HasL G0 H5 := fun x hx => hOs x (by rw [e6]; simp [hx])
  have hF13 := hb10.row
  refine callsOf Tryd.func11 rfl _ Tryd.ntmps11 rfl _ (argsCons (argsCons argsNil (t := 0) rfl) (t := 1) rfl) ?_; intro Q0 hQ
  refine wcSeq ?_
  refine wcRegion ?_
  refine wlVal (opAssign rfl) rfl ?_
  refine wlThen ?_
  refine wcSeq ?_
  refine wcRegion ?_
  refine wlVal (opMove rfl) rfl ?_
  refine wlVal (opMove rfl) rfl ?_
  refine wlCallG hC hB rfl co28 rfl rfl (slotAt_ret _ _ hC.holds bs Os s hOs hs k) ?_; rintro v16 G w hk hC hB (⟨hf17, rfl⟩ | ⟨r18, t19, hf17, rfl, hr20, hx21⟩)
  · skip
    replace hn7 := hn7.mono hk.gle; replace hOs := hOs.mono hk.gle; replace hs := hs.mono hk.gle; replace hM8 := hM8.mono hk.gle; replace hH9 := hH9.mono hk.gle; replace hb10 := hb10.mono hk.gle; replace hl11 := hl11.mono hk.gle; replace hL12 := hL12.mono hk.gle
    replace hF13 := hF13.mono hk.gle
    replace hsil := hsil.mono hk.gle
    refine wlVal (opAssign rfl) rfl ?_
    refine wlThen ?_
    refine wcSeq ?_
    refine wcRegion ?_
    refine wlVal (opMove rfl) rfl ?_
    refine wlVal (OpVal.cast (v' := .bool false) (opPtrNe ip59 rfl rfl) rfl) rfl ?_
    refine wlVal (opMove rfl) rfl ?_
    refine wlOff rfl rfl rfl rfl ?_
    refine wlOff rfl rfl rfl rfl ?_
    refine wlOff rfl rfl rfl rfl ?_
    refine wlVal (opPickF rfl rfl) rfl ?_
    refine wlVal (opAssign rfl) rfl ?_
    refine wlThen ?_
    refine wcRet ?_
    exact fun ac_ ha => hQ _ _ _ (results1 ha rfl rfl) ha.df (endS hC hw (by simp only [preparedI, hf17]))
  · skip
    replace hn7 := hn7.mono hk.gle; replace hOs := hOs.mono hk.gle; replace hs := hs.mono hk.gle; replace hM8 := hM8.mono hk.gle; replace hH9 := hH9.mono hk.gle; replace hb10 := hb10.mono hk.gle; replace hl11 := hl11.mono hk.gle; replace hL12 := hL12.mono hk.gle
    replace hF13 := hF13.mono hk.gle
    replace hsil := hsil.mono hk.gle
    have hF22 := hx21.row hr20
    have hM23 := hx21.pre
    have hM24 := hx21.com
    have hl25 := hr20.m1
    have hl26 := hr20.m2
    have hq27 := hx21.qSl hr20
    obtain ⟨A28, cap29, e30⟩ := hq27.form
    rw [e30] at hq27 hF22
    refine wlVal (opAssign rfl) rfl ?_
    refine wlThen ?_
    refine wcSeq ?_
    refine wcRegion ?_
    refine wlVal (opMove rfl) rfl ?_
    refine wlVal (OpVal.cast (v' := .bool true) (opPtrNe ip59 rfl rfl) rfl) rfl ?_
    refine wlVal (opMove rfl) rfl ?_
    refine wlOn rfl rfl ?_
    refine wlVal (opMove rfl) rfl ?_
    refine wlOn rfl rfl ?_
    refine wlVal (opMove rfl) rfl ?_
    refine wlOn rfl rfl ?_
    refine wlCallS hC hB rfl co29 rfl rfl (ready_ret _ _ hC.holds bs l2 _ s hb10 hn7 r18 t19 hr20 hx21 hsil) ?_; intro w hk hC hB
    refine wlVal (opPickT rfl rfl) rfl ?_
    refine wlVal (opAssign rfl) rfl ?_
    refine wlThen ?_
    refine wcRet ?_
    exact fun ac_ ha => hQ _ _ _ (results1 ha rfl rfl) ha.df (endS hC hw (by simp only [preparedI, hf17]))

theorem at_ret (G0 : Gh) (w0 : World) (hw : Holds G0 w0) (bs : Nat) (Os : List (Nat × Obj)) (s : SlS) (hOs : HasL G0 Os) (hs : SlO G0 bs Os s) (k : Int) (hsil : RowG G0 0 0 silence.cells) :
    RetS Tryd.prog 21 #[.pointer (some ⟨bs, 0, none⟩), .int .i64 k] G0 w0 (.tuple #[(.agg ((atI s k).1).cells.toArray), (.bool ((atI s k).2))]) := by
  have hC := Cx.refl hw
  have hB : Bxs G0 w0 w0.heap.size [] := Bxs.nil _ _ _
  obtain ⟨v1, l2, om3, D4, H5, e6, hn7, hM8, hH9⟩ := id hs
  obtain ⟨A14, cap15, rfl⟩ := hn7.form
  have hb10 : HasO G0 bs (.cells [(.int .i64 s.crew.faults), (.slice A14 s.crew.nodes.length cap15), (.int .i64 s.low), (.map (some l2))].toArray 70 (0, 0)) := hOs (bs, (.cells [(.int .i64 s.crew.faults), (.slice A14 s.crew.nodes.length cap15), (.int .i64 s.low), (.map (some l2))].toArray 70 (0, 0))) (by rw [e6]; simp)
  have hl11 : HasO G0 l2 om3 := hOs (l2, om3) (by rw [e6]; simp)
  have hL12 : HasL G0 H5 := fun x hx => hOs x (by rw [e6]; simp [hx])
  have hF13 := hb10.row
  refine callsOf Tryd.func21 rfl _ Tryd.ntmps21 rfl _ (argsCons (argsCons argsNil (t := 0) rfl) (t := 1) rfl) ?_; intro Q0 hQ
  refine wcSeq ?_
  refine wcRegion ?_
  refine wlAlloc hC hB zero43 rfl ?_; intro b16 w hk hC hB
  refine wlVal (opAssign rfl) rfl ?_
  refine wlThen ?_
  refine wcSeq ?_
  refine wcRegion ?_
  refine wlVal (opMove rfl) rfl ?_
  refine wlVal (opMove rfl) rfl ?_
  refine wlCallG hC hB rfl co28 rfl rfl (slotAt_ret _ _ hC.holds bs Os s hOs hs k) ?_; rintro v17 G w hk hC hB (⟨hf18, rfl⟩ | ⟨r19, t20, hf18, rfl, hr21, hx22⟩)
  · skip
    replace hn7 := hn7.mono hk.gle; replace hOs := hOs.mono hk.gle; replace hs := hs.mono hk.gle; replace hM8 := hM8.mono hk.gle; replace hH9 := hH9.mono hk.gle; replace hb10 := hb10.mono hk.gle; replace hl11 := hl11.mono hk.gle; replace hL12 := hL12.mono hk.gle
    replace hF13 := hF13.mono hk.gle
    replace hsil := hsil.mono hk.gle
    refine wlVal (opAssign rfl) rfl ?_
    refine wlThen ?_
    refine wcSeq ?_
    refine wcSeq ?_
    refine wcDraw fmix (by kernel_rfl) (by kernel_rfl) (vAt [(fun _ v_ => v_ = (.pointer none)), (fun _ v_ => v_ = (.bool true)), (fun _ v_ => v_ = (.bool true)), (fun _ v_ => v_ = undef), (fun _ v_ => v_ = undef), (fun _ v_ => v_ = undef), (fun _ v_ => v_ = undef), (fun _ v_ => v_ = undef), (fun _ v_ => v_ = undef), (fun _ v_ => v_ = (.bool true))]) (fun _ _ G' w => Cx w0 G0 G' w ∧ Bxs G' w w0.heap.size [(b16, 43, ((.int .i64 0) :: (Dig.zero.cells ++ ((.int .i64 0) :: []))))] ∧ GLe G G') G (vAt_mono ⟨fun _ _ _ _ h => h, fun _ _ _ _ h => h, fun _ _ _ _ h => h, fun _ _ _ _ h => h, fun _ _ _ _ h => h, fun _ _ _ _ h => h, fun _ _ _ _ h => h, fun _ _ _ _ h => h, fun _ _ _ _ h => h, fun _ _ _ _ h => h, trivial⟩) (fun _ _ => ⟨hC.drew, hB.drew, fun _ _ h => h⟩) ?_ ?_
    · refine dsNone (j := 1) rfl ?_ ?_
      · intro done G w ac_ hd hp hn ⟨hC, hB, hg⟩ hM
        have f6 : ac_.tmps[6]? = some (.pointer none) := hM.old0 rfl rfl
        have hF : Fr 33 ac_ (Env.nil.put 6 (.pointer none)) := (hM.fr.add f6)
        exact OpVal.draw hF (opMove rfl) ⟨G, fun _ _ h => h, ⟨hC, hB, hg⟩, rfl⟩
      refine dsNone (j := 2) rfl ?_ ?_
      · intro done G w ac_ hd hp hn ⟨hC, hB, hg⟩ hM
        have f10 : ac_.tmps[10]? = some (.pointer none) := hM.eqv 0 rfl (hp 0 rfl) rfl rfl
        have hF : Fr 33 ac_ (Env.nil.put 10 (.pointer none)) := (hM.fr.add f10)
        exact OpVal.draw hF (OpVal.cast (v' := .bool true) (opPtrNil ip59 rfl rfl) rfl) ⟨G, fun _ _ h => h, ⟨hC, hB, hg⟩, rfl⟩
      refine dsNone (j := 3) rfl ?_ ?_
      · intro done G w ac_ hd hp hn ⟨hC, hB, hg⟩ hM
        have f11 : ac_.tmps[11]? = some (.bool true) := hM.eqv 1 rfl (hp 1 rfl) rfl rfl
        have hF : Fr 33 ac_ (Env.nil.put 11 (.bool true)) := (hM.fr.add f11)
        exact OpVal.draw hF (opMove rfl) ⟨G, fun _ _ h => h, ⟨hC, hB, hg⟩, rfl⟩
      refine dsOff (j := 4) (b' := true) rfl rfl rfl ?_ ?_
      · intro done G w ac_ hd hp hn ⟨hC, hB, hg⟩ hM
        have f12 : ac_.tmps[12]? = some (.bool true) := hM.eqv 2 rfl (hp 2 rfl) rfl rfl
        exact ⟨f12, ⟨hC, hB, hg⟩, rfl⟩
      refine dsOff (j := 5) (b' := true) rfl rfl rfl ?_ ?_
      · intro done G w ac_ hd hp hn ⟨hC, hB, hg⟩ hM
        have f12 : ac_.tmps[12]? = some (.bool true) := hM.eqv 2 rfl (hp 2 rfl) rfl rfl
        exact ⟨f12, ⟨hC, hB, hg⟩, rfl⟩
      refine dsOff (j := 6) (b' := true) rfl rfl rfl ?_ ?_
      · intro done G w ac_ hd hp hn ⟨hC, hB, hg⟩ hM
        have f12 : ac_.tmps[12]? = some (.bool true) := hM.eqv 2 rfl (hp 2 rfl) rfl rfl
        exact ⟨f12, ⟨hC, hB, hg⟩, rfl⟩
      refine dsOff (j := 7) (b' := true) rfl rfl rfl ?_ ?_
      · intro done G w ac_ hd hp hn ⟨hC, hB, hg⟩ hM
        have f12 : ac_.tmps[12]? = some (.bool true) := hM.eqv 2 rfl (hp 2 rfl) rfl rfl
        exact ⟨f12, ⟨hC, hB, hg⟩, rfl⟩
      refine dsOff (j := 8) (b' := true) rfl rfl rfl ?_ ?_
      · intro done G w ac_ hd hp hn ⟨hC, hB, hg⟩ hM
        have f12 : ac_.tmps[12]? = some (.bool true) := hM.eqv 2 rfl (hp 2 rfl) rfl rfl
        exact ⟨f12, ⟨hC, hB, hg⟩, rfl⟩
      refine dsOff (j := 9) (b' := true) rfl rfl rfl ?_ ?_
      · intro done G w ac_ hd hp hn ⟨hC, hB, hg⟩ hM
        have f12 : ac_.tmps[12]? = some (.bool true) := hM.eqv 2 rfl (hp 2 rfl) rfl rfl
        exact ⟨f12, ⟨hC, hB, hg⟩, rfl⟩
      refine dsNone (j := 10) rfl ?_ ?_
      · intro done G w ac_ hd hp hn ⟨hC, hB, hg⟩ hM
        have f12 : ac_.tmps[12]? = some (.bool true) := hM.eqv 2 rfl (hp 2 rfl) rfl rfl
        have f18 : ac_.tmps[18]? = some undef := hM.eqv 8 rfl (hp 8 rfl) rfl rfl
        have hF : Fr 33 ac_ ((Env.nil.put 12 (.bool true)).put 18 undef) := ((hM.fr.add f12).add f18)
        exact OpVal.draw hF (opPickT rfl rfl) ⟨G, fun _ _ h => h, ⟨hC, hB, hg⟩, rfl⟩
      exact dsNil
    · intro done G w ac_ hall ⟨hC, hB, hg⟩ hM
      replace hn7 := hn7.mono hg
      replace hOs := hOs.mono hg
      replace hs := hs.mono hg
      replace hM8 := hM8.mono hg
      replace hH9 := hH9.mono hg
      replace hb10 := hb10.mono hg
      replace hl11 := hl11.mono hg
      replace hL12 := hL12.mono hg
      replace hF13 := hF13.mono hg
      replace hsil := hsil.mono hg
      have f1 : ac_.tmps[1]? = some (.int .i64 k) := hM.old0 rfl rfl
      have f4 : ac_.tmps[4]? = some (.pointer (some ⟨b16, 0, none⟩)) := hM.old0 rfl rfl
      have f6 : ac_.tmps[6]? = some (.pointer none) := hM.old0 rfl rfl
      have f19 : ac_.tmps[19]? = some (.bool true) := hM.eqv 9 rfl (hall 9 (by decide)) rfl rfl
      refine ⟨((((Env.nil.put 1 (.int .i64 k)).put 4 (.pointer (some ⟨b16, 0, none⟩))).put 6 (.pointer none)).put 19 (.bool true)), ((((hM.fr.add f1).add f4).add f6).add f19), ?_⟩
      clear hM hall
      refine wcOf ?_
      refine wcCondT rfl ?_
      refine wcSeq ?_
      refine wcRegion ?_
      refine wlVal (opBuild (ps := []) (cs := ((.int .i64 0) :: (Dig.zero.cells ++ ((.int .i64 0) :: [])))) so43 zero43 rfl rfl (by first | (simp [buildCells, Value.cells]; done) | simp [buildCells, Value.cells, Word.cells, Stand.cells, Wd.cells, Mark.cells])) rfl ?_
      refine wlStore 0 (vs := ((.int .i64 0) :: (Dig.zero.cells ++ ((.int .i64 0) :: [])))) (cs := ((.int .i64 0) :: (Dig.zero.cells ++ ((.int .i64 0) :: [])))) (cs' := ((.int .i64 0) :: (Dig.zero.cells ++ ((.int .i64 0) :: [])))) hC hB rfl rfl rfl sz43 rfl (by simp [Word.cells, Stand.cells, Wd.cells, Mark.cells]) (by simp [Word.cells, Stand.cells, Wd.cells, Mark.cells, Value.oneCell']) (by simp [Word.cells, Stand.cells, Wd.cells, Mark.cells]) (by simp [Word.cells, Stand.cells, Wd.cells, Mark.cells]) rfl ?_; intro w hC hB
      refine wlVal (opAssign rfl) rfl ?_
      refine wlThen ?_
      refine wcRet ?_
      exact fun ac_ ha => hQ _ _ _ (results2 ha rfl ⟨_, _, ((.int .i64 0) :: (Dig.zero.cells ++ ((.int .i64 0) :: []))), rfl, row43, (by simp [Word.cells, Stand.cells, Wd.cells, Mark.cells]), hB.range (i := 0) (m := 34) rfl (by simp [Word.cells, Stand.cells, Wd.cells, Mark.cells]), rfl⟩ rfl) ha.df (endS hC hw (by simp only [atI, hf18, cond_true, cond_false, Bool.not_true, Bool.not_false, Stand.cells]))
  · skip
    replace hn7 := hn7.mono hk.gle; replace hOs := hOs.mono hk.gle; replace hs := hs.mono hk.gle; replace hM8 := hM8.mono hk.gle; replace hH9 := hH9.mono hk.gle; replace hb10 := hb10.mono hk.gle; replace hl11 := hl11.mono hk.gle; replace hL12 := hL12.mono hk.gle
    replace hF13 := hF13.mono hk.gle
    replace hsil := hsil.mono hk.gle
    have hF23 := hx22.row hr21
    have hM24 := hx22.pre
    have hM25 := hx22.com
    have hl26 := hr21.m1
    have hl27 := hr21.m2
    have hq28 := hx22.qSl hr21
    obtain ⟨A29, cap30, e31⟩ := hq28.form
    rw [e31] at hq28 hF23
    refine wlVal (opAssign rfl) rfl ?_
    refine wlThen ?_
    refine wcSeq ?_
    refine wcSeq ?_
    refine wcDraw fmix (by kernel_rfl) (by kernel_rfl) (vAt [(fun _ v_ => v_ = (.pointer (some ⟨r19.p, 0, none⟩))), (fun _ v_ => v_ = (.bool false)), (fun _ v_ => v_ = (.bool false)), (fun _ v_ => v_ = (.pointer (some ⟨r19.p, 0, none⟩))), (fun _ v_ => v_ = (.pointer (some ⟨r19.p, 0, none⟩))), (fun _ v_ => v_ = (.pointer (some ⟨r19.p, 0, none⟩))), (fun _ v_ => v_ = (.agg t20.last.cells.toArray)), (fun _ v_ => v_ = (.agg silence.cells.toArray)), (fun _ v_ => v_ = (.bool (decide (t20.last = silence)))), (fun _ v_ => v_ = (.bool (decide (t20.last = silence))))]) (fun _ _ G' w => Cx w0 G0 G' w ∧ Bxs G' w w0.heap.size [(b16, 43, ((.int .i64 0) :: (Dig.zero.cells ++ ((.int .i64 0) :: []))))] ∧ GLe G G') G (vAt_mono ⟨fun _ _ _ _ h => h, fun _ _ _ _ h => h, fun _ _ _ _ h => h, fun _ _ _ _ h => h, fun _ _ _ _ h => h, fun _ _ _ _ h => h, fun _ _ _ _ h => h, fun _ _ _ _ h => h, fun _ _ _ _ h => h, fun _ _ _ _ h => h, trivial⟩) (fun _ _ => ⟨hC.drew, hB.drew, fun _ _ h => h⟩) ?_ ?_
    · refine dsNone (j := 1) rfl ?_ ?_
      · intro done G w ac_ hd hp hn ⟨hC, hB, hg⟩ hM
        have f6 : ac_.tmps[6]? = some (.pointer (some ⟨r19.p, 0, none⟩)) := hM.old0 rfl rfl
        have hF : Fr 33 ac_ (Env.nil.put 6 (.pointer (some ⟨r19.p, 0, none⟩))) := (hM.fr.add f6)
        exact OpVal.draw hF (opMove rfl) ⟨G, fun _ _ h => h, ⟨hC, hB, hg⟩, rfl⟩
      refine dsNone (j := 2) rfl ?_ ?_
      · intro done G w ac_ hd hp hn ⟨hC, hB, hg⟩ hM
        have f10 : ac_.tmps[10]? = some (.pointer (some ⟨r19.p, 0, none⟩)) := hM.eqv 0 rfl (hp 0 rfl) rfl rfl
        have hF : Fr 33 ac_ (Env.nil.put 10 (.pointer (some ⟨r19.p, 0, none⟩))) := (hM.fr.add f10)
        exact OpVal.draw hF (OpVal.cast (v' := .bool false) (opPtrNil ip59 rfl rfl) rfl) ⟨G, fun _ _ h => h, ⟨hC, hB, hg⟩, rfl⟩
      refine dsNone (j := 3) rfl ?_ ?_
      · intro done G w ac_ hd hp hn ⟨hC, hB, hg⟩ hM
        have f11 : ac_.tmps[11]? = some (.bool false) := hM.eqv 1 rfl (hp 1 rfl) rfl rfl
        have hF : Fr 33 ac_ (Env.nil.put 11 (.bool false)) := (hM.fr.add f11)
        exact OpVal.draw hF (opMove rfl) ⟨G, fun _ _ h => h, ⟨hC, hB, hg⟩, rfl⟩
      refine dsOn (j := 4) rfl rfl ?_ ?_
      · intro done G w ac_ hd hp hn ⟨hC, hB, hg⟩ hM
        have f6 : ac_.tmps[6]? = some (.pointer (some ⟨r19.p, 0, none⟩)) := hM.old0 rfl rfl
        have f12 : ac_.tmps[12]? = some (.bool false) := hM.eqv 2 rfl (hp 2 rfl) rfl rfl
        refine ⟨f12, ?_⟩
        have hF : Fr 33 ac_ (Env.nil.put 6 (.pointer (some ⟨r19.p, 0, none⟩))) := (hM.fr.add f6)
        exact OpVal.draw hF (opMove rfl) ⟨G, fun _ _ h => h, ⟨hC, hB, hg⟩, rfl⟩
      refine dsOn (j := 5) rfl rfl ?_ ?_
      · intro done G w ac_ hd hp hn ⟨hC, hB, hg⟩ hM
        have f13 : ac_.tmps[13]? = some (.pointer (some ⟨r19.p, 0, none⟩)) := hM.eqv 3 rfl (hp 3 rfl) rfl rfl
        have f12 : ac_.tmps[12]? = some (.bool false) := hM.eqv 2 rfl (hp 2 rfl) rfl rfl
        refine ⟨f12, ?_⟩
        have hF : Fr 33 ac_ (Env.nil.put 13 (.pointer (some ⟨r19.p, 0, none⟩))) := (hM.fr.add f13)
        exact OpVal.draw hF (opNilCheck rfl) ⟨G, fun _ _ h => h, ⟨hC, hB, hg⟩, rfl⟩
      refine dsOn (j := 6) rfl rfl ?_ ?_
      · intro done G w ac_ hd hp hn ⟨hC, hB, hg⟩ hM
        have f14 : ac_.tmps[14]? = some (.pointer (some ⟨r19.p, 0, none⟩)) := hM.eqv 4 rfl (hp 4 rfl) rfl rfl
        have f12 : ac_.tmps[12]? = some (.bool false) := hM.eqv 2 rfl (hp 2 rfl) rfl rfl
        refine ⟨f12, ?_⟩
        have hF : Fr 33 ac_ (Env.nil.put 14 (.pointer (some ⟨r19.p, 0, none⟩))) := (hM.fr.add f14)
        exact OpVal.draw hF (opFieldAddr rfl fo66_0) ⟨G, fun _ _ h => h, ⟨hC, hB, hg⟩, rfl⟩
      refine dsOn (j := 7) rfl rfl ?_ ?_
      · intro done G w ac_ hd hp hn ⟨hC, hB, hg⟩ hM
        replace hF23 := hF23.mono hg
        have f15 : ac_.tmps[15]? = some (.pointer (some ⟨r19.p, 0, none⟩)) := hM.eqv 5 rfl (hp 5 rfl) rfl rfl
        have f12 : ac_.tmps[12]? = some (.bool false) := hM.eqv 2 rfl (hp 2 rfl) rfl rfl
        refine ⟨f12, ?_⟩
        have hF : Fr 33 ac_ (Env.nil.put 15 (.pointer (some ⟨r19.p, 0, none⟩))) := (hM.fr.add f15)
        exact OpVal.draw hF (opLoadRow (cs := t20.last.cells) rfl (RowG.range hC.holds (hF23.part (i := 0) (m := 33) (by simp [Word.cells, Stand.cells, Wd.cells, Mark.cells]))) row63 (by simp [Word.cells, Stand.cells, Wd.cells, Mark.cells])) ⟨G, fun _ _ h => h, ⟨hC, hB, hg⟩, rfl⟩
      refine dsOn (j := 8) rfl rfl ?_ ?_
      · intro done G w ac_ hd hp hn ⟨hC, hB, hg⟩ hM
        replace hsil := hsil.mono hg
        have f12 : ac_.tmps[12]? = some (.bool false) := hM.eqv 2 rfl (hp 2 rfl) rfl rfl
        refine ⟨f12, ?_⟩
        have hF : Fr 33 ac_ Env.nil := hM.fr
        exact OpVal.draw hF (opLoadRow (cs := silence.cells) rfl (RowG.range hC.holds (hsil.part (i := 0) (m := 33) (by simp [Word.cells, Stand.cells, Wd.cells, Mark.cells]))) row63 (by simp [Word.cells, Stand.cells, Wd.cells, Mark.cells])) ⟨G, fun _ _ h => h, ⟨hC, hB, hg⟩, rfl⟩
      refine dsOn (j := 9) rfl rfl ?_ ?_
      · intro done G w ac_ hd hp hn ⟨hC, hB, hg⟩ hM
        have f16 : ac_.tmps[16]? = some (.agg t20.last.cells.toArray) := hM.eqv 6 rfl (hp 6 rfl) rfl rfl
        have f17 : ac_.tmps[17]? = some (.agg silence.cells.toArray) := hM.eqv 7 rfl (hp 7 rfl) rfl rfl
        have f12 : ac_.tmps[12]? = some (.bool false) := hM.eqv 2 rfl (hp 2 rfl) rfl rfl
        refine ⟨f12, ?_⟩
        have hF : Fr 33 ac_ ((Env.nil.put 16 (.agg t20.last.cells.toArray)).put 17 (.agg silence.cells.toArray)) := ((hM.fr.add f16).add f17)
        exact OpVal.draw hF (opEqRow (eq63 _ t20.last silence) eg63 rfl rfl) ⟨G, fun _ _ h => h, ⟨hC, hB, hg⟩, rfl⟩
      refine dsNone (j := 10) rfl ?_ ?_
      · intro done G w ac_ hd hp hn ⟨hC, hB, hg⟩ hM
        have f12 : ac_.tmps[12]? = some (.bool false) := hM.eqv 2 rfl (hp 2 rfl) rfl rfl
        have f18 : ac_.tmps[18]? = some (.bool (decide (t20.last = silence))) := hM.eqv 8 rfl (hp 8 rfl) rfl rfl
        have hF : Fr 33 ac_ ((Env.nil.put 12 (.bool false)).put 18 (.bool (decide (t20.last = silence)))) := ((hM.fr.add f12).add f18)
        exact OpVal.draw hF (opPickF rfl rfl) ⟨G, fun _ _ h => h, ⟨hC, hB, hg⟩, rfl⟩
      exact dsNil
    · intro done G w ac_ hall ⟨hC, hB, hg⟩ hM
      replace hn7 := hn7.mono hg
      replace hOs := hOs.mono hg
      replace hs := hs.mono hg
      replace hM8 := hM8.mono hg
      replace hH9 := hH9.mono hg
      replace hb10 := hb10.mono hg
      replace hl11 := hl11.mono hg
      replace hL12 := hL12.mono hg
      replace hr21 := hr21.mono hg
      replace hx22 := hx22.mono hg
      replace hq28 := hq28.mono hg
      replace hM24 := hM24.mono hg
      replace hM25 := hM25.mono hg
      replace hl26 := hl26.mono hg
      replace hl27 := hl27.mono hg
      replace hF13 := hF13.mono hg
      replace hsil := hsil.mono hg
      replace hF23 := hF23.mono hg
      have f1 : ac_.tmps[1]? = some (.int .i64 k) := hM.old0 rfl rfl
      have f4 : ac_.tmps[4]? = some (.pointer (some ⟨b16, 0, none⟩)) := hM.old0 rfl rfl
      have f6 : ac_.tmps[6]? = some (.pointer (some ⟨r19.p, 0, none⟩)) := hM.old0 rfl rfl
      have f19 : ac_.tmps[19]? = some (.bool (decide (t20.last = silence))) := hM.eqv 9 rfl (hall 9 (by decide)) rfl rfl
      refine ⟨((((Env.nil.put 1 (.int .i64 k)).put 4 (.pointer (some ⟨b16, 0, none⟩))).put 6 (.pointer (some ⟨r19.p, 0, none⟩))).put 19 (.bool (decide (t20.last = silence)))), ((((hM.fr.add f1).add f4).add f6).add f19), ?_⟩
      clear hM hall
      refine wcOf ?_
      cases h32 : decide (t20.last = silence)
      · skip
        refine wcCondF rfl ?_
        refine wcSkip ?_
        refine wcOf ?_
        refine wcSeq ?_
        refine wcDraw fmix (by kernel_rfl) (by kernel_rfl) (vAt [(fun _ v_ => v_ = (.int .i64 k)), (fun _ v_ => v_ = (.pointer (some ⟨r19.p, 0, none⟩))), (fun _ v_ => v_ = (.pointer (some ⟨r19.p, 0, none⟩))), (fun _ v_ => v_ = (.pointer (some ⟨r19.p, 0, none⟩))), (fun _ v_ => v_ = (.pointer (some ⟨r19.p, 1, none⟩))), (fun _ v_ => v_ = (.agg t20.last.dig.cells.toArray)), (fun _ v_ => v_ = (.pointer (some ⟨r19.p, 0, none⟩))), (fun _ v_ => v_ = (.pointer (some ⟨r19.p, 0, none⟩))), (fun _ v_ => v_ = (.pointer (some ⟨r19.p, 0, none⟩))), (fun _ v_ => v_ = (.pointer (some ⟨r19.p, 0, none⟩))), (fun _ v_ => v_ = (.int .i64 t20.last.view)), (fun _ v_ => v_ = (.agg ((.int .i64 k) :: (t20.last.dig.cells ++ ((.int .i64 t20.last.view) :: []))).toArray)), (fun _ _ => True), (fun _ v_ => v_ = (.bool true))]) (fun done _ G' w => Cx w0 G0 G' w ∧ Bxs G' w w0.heap.size [(b16, 43, (bif done 12 then ((.int .i64 k) :: (t20.last.dig.cells ++ ((.int .i64 t20.last.view) :: []))) else ((.int .i64 0) :: (Dig.zero.cells ++ ((.int .i64 0) :: [])))))] ∧ GLe G G') G (vAt_mono ⟨fun _ _ _ _ h => h, fun _ _ _ _ h => h, fun _ _ _ _ h => h, fun _ _ _ _ h => h, fun _ _ _ _ h => h, fun _ _ _ _ h => h, fun _ _ _ _ h => h, fun _ _ _ _ h => h, fun _ _ _ _ h => h, fun _ _ _ _ h => h, fun _ _ _ _ h => h, fun _ _ _ _ h => h, fun _ _ _ _ h => h, fun _ _ _ _ h => h, trivial⟩) (fun _ _ => ⟨hC.drew, by simpa using hB.drew, fun _ _ h => h⟩) ?_ ?_
        · refine dsNone (j := 1) rfl ?_ ?_
          · intro done G w ac_ hd hp hn ⟨hC, hB, hg⟩ hM
            have f1 : ac_.tmps[1]? = some (.int .i64 k) := hM.old0 rfl rfl
            have hF : Fr 33 ac_ (Env.nil.put 1 (.int .i64 k)) := (hM.fr.add f1)
            exact OpVal.draw hF (opMove rfl) ⟨G, fun _ _ h => h, ⟨hC, hB, hg⟩, rfl⟩
          refine dsNone (j := 2) rfl ?_ ?_
          · intro done G w ac_ hd hp hn ⟨hC, hB, hg⟩ hM
            have f6 : ac_.tmps[6]? = some (.pointer (some ⟨r19.p, 0, none⟩)) := hM.old0 rfl rfl
            have hF : Fr 33 ac_ (Env.nil.put 6 (.pointer (some ⟨r19.p, 0, none⟩))) := (hM.fr.add f6)
            exact OpVal.draw hF (opMove rfl) ⟨G, fun _ _ h => h, ⟨hC, hB, hg⟩, rfl⟩
          refine dsNone (j := 3) rfl ?_ ?_
          · intro done G w ac_ hd hp hn ⟨hC, hB, hg⟩ hM
            have f22 : ac_.tmps[22]? = some (.pointer (some ⟨r19.p, 0, none⟩)) := hM.eqv 1 rfl (hp 1 rfl) rfl rfl
            have hF : Fr 33 ac_ (Env.nil.put 22 (.pointer (some ⟨r19.p, 0, none⟩))) := (hM.fr.add f22)
            exact OpVal.draw hF (opNilCheck rfl) ⟨G, fun _ _ h => h, ⟨hC, hB, hg⟩, rfl⟩
          refine dsNone (j := 4) rfl ?_ ?_
          · intro done G w ac_ hd hp hn ⟨hC, hB, hg⟩ hM
            have f23 : ac_.tmps[23]? = some (.pointer (some ⟨r19.p, 0, none⟩)) := hM.eqv 2 rfl (hp 2 rfl) rfl rfl
            have hF : Fr 33 ac_ (Env.nil.put 23 (.pointer (some ⟨r19.p, 0, none⟩))) := (hM.fr.add f23)
            exact OpVal.draw hF (opFieldAddr rfl fo66_0) ⟨G, fun _ _ h => h, ⟨hC, hB, hg⟩, rfl⟩
          refine dsNone (j := 5) rfl ?_ ?_
          · intro done G w ac_ hd hp hn ⟨hC, hB, hg⟩ hM
            have f24 : ac_.tmps[24]? = some (.pointer (some ⟨r19.p, 0, none⟩)) := hM.eqv 3 rfl (hp 3 rfl) rfl rfl
            have hF : Fr 33 ac_ (Env.nil.put 24 (.pointer (some ⟨r19.p, 0, none⟩))) := (hM.fr.add f24)
            exact OpVal.draw hF (opFieldAddr rfl fo63_1) ⟨G, fun _ _ h => h, ⟨hC, hB, hg⟩, rfl⟩
          refine dsNone (j := 6) rfl ?_ ?_
          · intro done G w ac_ hd hp hn ⟨hC, hB, hg⟩ hM
            replace hF23 := hF23.mono hg
            have f25 : ac_.tmps[25]? = some (.pointer (some ⟨r19.p, 1, none⟩)) := hM.eqv 4 rfl (hp 4 rfl) rfl rfl
            have hF : Fr 33 ac_ (Env.nil.put 25 (.pointer (some ⟨r19.p, 1, none⟩))) := (hM.fr.add f25)
            exact OpVal.draw hF (opLoadRow (cs := t20.last.dig.cells) rfl (RowG.range hC.holds (hF23.part (i := 1) (m := 32) (by simp [Word.cells, Stand.cells, Wd.cells, Mark.cells]))) row38 (by simp [Word.cells, Stand.cells, Wd.cells, Mark.cells])) ⟨G, fun _ _ h => h, ⟨hC, hB, hg⟩, rfl⟩
          refine dsNone (j := 7) rfl ?_ ?_
          · intro done G w ac_ hd hp hn ⟨hC, hB, hg⟩ hM
            have f6 : ac_.tmps[6]? = some (.pointer (some ⟨r19.p, 0, none⟩)) := hM.old0 rfl rfl
            have hF : Fr 33 ac_ (Env.nil.put 6 (.pointer (some ⟨r19.p, 0, none⟩))) := (hM.fr.add f6)
            exact OpVal.draw hF (opMove rfl) ⟨G, fun _ _ h => h, ⟨hC, hB, hg⟩, rfl⟩
          refine dsNone (j := 8) rfl ?_ ?_
          · intro done G w ac_ hd hp hn ⟨hC, hB, hg⟩ hM
            have f27 : ac_.tmps[27]? = some (.pointer (some ⟨r19.p, 0, none⟩)) := hM.eqv 6 rfl (hp 6 rfl) rfl rfl
            have hF : Fr 33 ac_ (Env.nil.put 27 (.pointer (some ⟨r19.p, 0, none⟩))) := (hM.fr.add f27)
            exact OpVal.draw hF (opNilCheck rfl) ⟨G, fun _ _ h => h, ⟨hC, hB, hg⟩, rfl⟩
          refine dsNone (j := 9) rfl ?_ ?_
          · intro done G w ac_ hd hp hn ⟨hC, hB, hg⟩ hM
            have f28 : ac_.tmps[28]? = some (.pointer (some ⟨r19.p, 0, none⟩)) := hM.eqv 7 rfl (hp 7 rfl) rfl rfl
            have hF : Fr 33 ac_ (Env.nil.put 28 (.pointer (some ⟨r19.p, 0, none⟩))) := (hM.fr.add f28)
            exact OpVal.draw hF (opFieldAddr rfl fo66_0) ⟨G, fun _ _ h => h, ⟨hC, hB, hg⟩, rfl⟩
          refine dsNone (j := 10) rfl ?_ ?_
          · intro done G w ac_ hd hp hn ⟨hC, hB, hg⟩ hM
            have f29 : ac_.tmps[29]? = some (.pointer (some ⟨r19.p, 0, none⟩)) := hM.eqv 8 rfl (hp 8 rfl) rfl rfl
            have hF : Fr 33 ac_ (Env.nil.put 29 (.pointer (some ⟨r19.p, 0, none⟩))) := (hM.fr.add f29)
            exact OpVal.draw hF (opFieldAddr rfl fo63_0) ⟨G, fun _ _ h => h, ⟨hC, hB, hg⟩, rfl⟩
          refine dsNone (j := 11) rfl ?_ ?_
          · intro done G w ac_ hd hp hn ⟨hC, hB, hg⟩ hM
            replace hF23 := hF23.mono hg
            have f30 : ac_.tmps[30]? = some (.pointer (some ⟨r19.p, 0, none⟩)) := hM.eqv 9 rfl (hp 9 rfl) rfl rfl
            have hF : Fr 33 ac_ (Env.nil.put 30 (.pointer (some ⟨r19.p, 0, none⟩))) := (hM.fr.add f30)
            exact OpVal.draw hF (opLoadOne (v := (.int .i64 t20.last.view)) rfl (RowG.cell hC.holds hF23 (j := 0) (by simp [Word.cells, Stand.cells, Wd.cells, Mark.cells])) one3) ⟨G, fun _ _ h => h, ⟨hC, hB, hg⟩, rfl⟩
          refine dsNone (j := 12) rfl ?_ ?_
          · intro done G w ac_ hd hp hn ⟨hC, hB, hg⟩ hM
            have f21 : ac_.tmps[21]? = some (.int .i64 k) := hM.eqv 0 rfl (hp 0 rfl) rfl rfl
            have f26 : ac_.tmps[26]? = some (.agg t20.last.dig.cells.toArray) := hM.eqv 5 rfl (hp 5 rfl) rfl rfl
            have f31 : ac_.tmps[31]? = some (.int .i64 t20.last.view) := hM.eqv 10 rfl (hp 10 rfl) rfl rfl
            have hF : Fr 33 ac_ (((Env.nil.put 21 (.int .i64 k)).put 26 (.agg t20.last.dig.cells.toArray)).put 31 (.int .i64 t20.last.view)) := (((hM.fr.add f21).add f26).add f31)
            exact OpVal.draw hF (opBuild (ps := [(0, .tmp 21), (1, .tmp 26), (2, .tmp 31)]) (cs := ((.int .i64 k) :: (t20.last.dig.cells ++ ((.int .i64 t20.last.view) :: [])))) so43 zero43 rfl rfl (by first | (simp [buildCells, Value.cells]; done) | simp [buildCells, Value.cells, Word.cells, Stand.cells, Wd.cells, Mark.cells])) ⟨G, fun _ _ h => h, ⟨hC, hB, hg⟩, (by show _ = _; rfl)⟩
          refine dsNone (j := 13) rfl ?_ ?_
          · intro done G w ac_ hd hp hn ⟨hC, hB, hg⟩ hM
            have f4 : ac_.tmps[4]? = some (.pointer (some ⟨b16, 0, none⟩)) := hM.old0 rfl rfl
            have f32 : ac_.tmps[32]? = some (.agg ((.int .i64 k) :: (t20.last.dig.cells ++ ((.int .i64 t20.last.view) :: []))).toArray) := hM.eqv 11 rfl (hp 11 rfl) rfl rfl
            have hF : Fr 33 ac_ ((Env.nil.put 4 (.pointer (some ⟨b16, 0, none⟩))).put 32 (.agg ((.int .i64 k) :: (t20.last.dig.cells ++ ((.int .i64 t20.last.view) :: []))).toArray)) := ((hM.fr.add f4).add f32)
            try simp only [hd, cond_false] at hB
            exact drawStore hF 0 (vs := ((.int .i64 k) :: (t20.last.dig.cells ++ ((.int .i64 t20.last.view) :: [])))) (cs := ((.int .i64 0) :: (Dig.zero.cells ++ ((.int .i64 0) :: [])))) (cs' := ((.int .i64 k) :: (t20.last.dig.cells ++ ((.int .i64 t20.last.view) :: [])))) hC hB rfl rfl rfl sz43 rfl (by simp [Word.cells, Stand.cells, Wd.cells, Mark.cells]) (by simp [Word.cells, Stand.cells, Wd.cells, Mark.cells, Value.oneCell']) (by simp [Word.cells, Stand.cells, Wd.cells, Mark.cells]) (by simp [Word.cells, Stand.cells, Wd.cells, Mark.cells]) (fun w' hC hB => ⟨G, fun _ _ h => h, ⟨hC, by simpa [Done.set] using hB, hg⟩, trivial⟩)
          refine dsNone (j := 14) rfl ?_ ?_
          · intro done G w ac_ hd hp hn ⟨hC, hB, hg⟩ hM
            have hF : Fr 33 ac_ Env.nil := hM.fr
            exact OpVal.draw hF (opAssign rfl) ⟨G, fun _ _ h => h, ⟨hC, hB, hg⟩, rfl⟩
          exact dsNil
        · intro done G w ac_ hall ⟨hC, hB, hg⟩ hM
          replace hn7 := hn7.mono hg
          replace hOs := hOs.mono hg
          replace hs := hs.mono hg
          replace hM8 := hM8.mono hg
          replace hH9 := hH9.mono hg
          replace hb10 := hb10.mono hg
          replace hl11 := hl11.mono hg
          replace hL12 := hL12.mono hg
          replace hr21 := hr21.mono hg
          replace hx22 := hx22.mono hg
          replace hq28 := hq28.mono hg
          replace hM24 := hM24.mono hg
          replace hM25 := hM25.mono hg
          replace hl26 := hl26.mono hg
          replace hl27 := hl27.mono hg
          replace hF13 := hF13.mono hg
          replace hsil := hsil.mono hg
          replace hF23 := hF23.mono hg
          try simp only [hall 12 (by decide), cond_true] at hB
          have f4 : ac_.tmps[4]? = some (.pointer (some ⟨b16, 0, none⟩)) := hM.old0 rfl rfl
          have f5 : ac_.tmps[5]? = some (.bool true) := hM.eqv 13 rfl (hall 13 (by decide)) rfl rfl
          refine ⟨((Env.nil.put 4 (.pointer (some ⟨b16, 0, none⟩))).put 5 (.bool true)), ((hM.fr.add f4).add f5), ?_⟩
          clear hM hall
          refine wcOf ?_
          refine wcRet ?_
          exact fun ac_ ha => hQ _ _ _ (results2 ha rfl ⟨_, _, ((.int .i64 k) :: (t20.last.dig.cells ++ ((.int .i64 t20.last.view) :: []))), rfl, row43, (by simp [Word.cells, Stand.cells, Wd.cells, Mark.cells]), hB.range (i := 0) (m := 34) rfl (by simp [Word.cells, Stand.cells, Wd.cells, Mark.cells]), rfl⟩ rfl) ha.df (endS hC hw (by simp only [atI, hf18, h32, cond_true, cond_false, Bool.not_true, Bool.not_false, Stand.cells]))
      · skip
        refine wcCondT rfl ?_
        refine wcSeq ?_
        refine wcRegion ?_
        refine wlVal (opBuild (ps := []) (cs := ((.int .i64 0) :: (Dig.zero.cells ++ ((.int .i64 0) :: [])))) so43 zero43 rfl rfl (by first | (simp [buildCells, Value.cells]; done) | simp [buildCells, Value.cells, Word.cells, Stand.cells, Wd.cells, Mark.cells])) rfl ?_
        refine wlStore 0 (vs := ((.int .i64 0) :: (Dig.zero.cells ++ ((.int .i64 0) :: [])))) (cs := ((.int .i64 0) :: (Dig.zero.cells ++ ((.int .i64 0) :: [])))) (cs' := ((.int .i64 0) :: (Dig.zero.cells ++ ((.int .i64 0) :: [])))) hC hB rfl rfl rfl sz43 rfl (by simp [Word.cells, Stand.cells, Wd.cells, Mark.cells]) (by simp [Word.cells, Stand.cells, Wd.cells, Mark.cells, Value.oneCell']) (by simp [Word.cells, Stand.cells, Wd.cells, Mark.cells]) (by simp [Word.cells, Stand.cells, Wd.cells, Mark.cells]) rfl ?_; intro w hC hB
        refine wlVal (opAssign rfl) rfl ?_
        refine wlThen ?_
        refine wcRet ?_
        exact fun ac_ ha => hQ _ _ _ (results2 ha rfl ⟨_, _, ((.int .i64 0) :: (Dig.zero.cells ++ ((.int .i64 0) :: []))), rfl, row43, (by simp [Word.cells, Stand.cells, Wd.cells, Mark.cells]), hB.range (i := 0) (m := 34) rfl (by simp [Word.cells, Stand.cells, Wd.cells, Mark.cells]), rfl⟩ rfl) ha.df (endS hC hw (by simp only [atI, hf18, h32, cond_true, cond_false, Bool.not_true, Bool.not_false, Stand.cells]))

theorem committed_ret (G0 : Gh) (w0 : World) (hw : Holds G0 w0) (bs : Nat) (Os : List (Nat × Obj)) (s : SlS) (hOs : HasL G0 Os) (hs : SlO G0 bs Os s) (k : Int) (hsil : RowG G0 0 0 silence.cells) :
    RetS Tryd.prog 12 #[.pointer (some ⟨bs, 0, none⟩), .int .i64 k] G0 w0 (.bool ((committedI s k))) := by
  have hC := Cx.refl hw
  have hB : Bxs G0 w0 w0.heap.size [] := Bxs.nil _ _ _
  obtain ⟨v1, l2, om3, D4, H5, e6, hn7, hM8, hH9⟩ := id hs
  obtain ⟨A14, cap15, rfl⟩ := hn7.form
  have hb10 : HasO G0 bs (.cells [(.int .i64 s.crew.faults), (.slice A14 s.crew.nodes.length cap15), (.int .i64 s.low), (.map (some l2))].toArray 70 (0, 0)) := hOs (bs, (.cells [(.int .i64 s.crew.faults), (.slice A14 s.crew.nodes.length cap15), (.int .i64 s.low), (.map (some l2))].toArray 70 (0, 0))) (by rw [e6]; simp)
  have hl11 : HasO G0 l2 om3 := hOs (l2, om3) (by rw [e6]; simp)
  have hL12 : HasL G0 H5 := fun x hx => hOs x (by rw [e6]; simp [hx])
  have hF13 := hb10.row
  refine callsOf Tryd.func12 rfl _ Tryd.ntmps12 rfl _ (argsCons (argsCons argsNil (t := 0) rfl) (t := 1) rfl) ?_; intro Q0 hQ
  refine wcSeq ?_
  refine wcRegion ?_
  refine wlVal (opAssign rfl) rfl ?_
  refine wlThen ?_
  refine wcSeq ?_
  refine wcRegion ?_
  refine wlVal (opMove rfl) rfl ?_
  refine wlVal (opMove rfl) rfl ?_
  refine wlCallG hC hB rfl co28 rfl rfl (slotAt_ret _ _ hC.holds bs Os s hOs hs k) ?_; rintro v16 G w hk hC hB (⟨hf17, rfl⟩ | ⟨r18, t19, hf17, rfl, hr20, hx21⟩)
  · skip
    replace hn7 := hn7.mono hk.gle; replace hOs := hOs.mono hk.gle; replace hs := hs.mono hk.gle; replace hM8 := hM8.mono hk.gle; replace hH9 := hH9.mono hk.gle; replace hb10 := hb10.mono hk.gle; replace hl11 := hl11.mono hk.gle; replace hL12 := hL12.mono hk.gle
    replace hF13 := hF13.mono hk.gle
    replace hsil := hsil.mono hk.gle
    refine wlVal (opAssign rfl) rfl ?_
    refine wlThen ?_
    refine wcSeq ?_
    refine wcSeq ?_
    refine wcRegion ?_
    refine wlVal (opMove rfl) rfl ?_
    refine wlVal (OpVal.cast (v' := .bool true) (opPtrNil ip59 rfl rfl) rfl) rfl ?_
    refine wlVal (opMove rfl) rfl ?_
    refine wlOff rfl rfl rfl rfl ?_
    refine wlOff rfl rfl rfl rfl ?_
    refine wlOff rfl rfl rfl rfl ?_
    refine wlOff rfl rfl rfl rfl ?_
    refine wlVal (opPickT rfl rfl) rfl ?_
    refine wlThen ?_
    refine wcCondT rfl ?_
    refine wcSeq ?_
    refine wcRegion ?_
    refine wlVal (opAssign rfl) rfl ?_
    refine wlThen ?_
    refine wcRet ?_
    exact fun ac_ ha => hQ _ _ _ (results1 ha rfl rfl) ha.df (endS hC hw (by simp only [committedI, hf17, cond_true, cond_false, Bool.not_true, Bool.not_false]))
  · skip
    replace hn7 := hn7.mono hk.gle; replace hOs := hOs.mono hk.gle; replace hs := hs.mono hk.gle; replace hM8 := hM8.mono hk.gle; replace hH9 := hH9.mono hk.gle; replace hb10 := hb10.mono hk.gle; replace hl11 := hl11.mono hk.gle; replace hL12 := hL12.mono hk.gle
    replace hF13 := hF13.mono hk.gle
    replace hsil := hsil.mono hk.gle
    have hF22 := hx21.row hr20
    have hM23 := hx21.pre
    have hM24 := hx21.com
    have hl25 := hr20.m1
    have hl26 := hr20.m2
    have hq27 := hx21.qSl hr20
    obtain ⟨A28, cap29, e30⟩ := hq27.form
    rw [e30] at hq27 hF22
    refine wlVal (opAssign rfl) rfl ?_
    refine wlThen ?_
    refine wcSeq ?_
    refine wcSeq ?_
    refine wcRegion ?_
    refine wlVal (opMove rfl) rfl ?_
    refine wlVal (OpVal.cast (v' := .bool false) (opPtrNil ip59 rfl rfl) rfl) rfl ?_
    refine wlVal (opMove rfl) rfl ?_
    refine wlOn rfl rfl ?_
    refine wlVal (opMove rfl) rfl ?_
    refine wlOn rfl rfl ?_
    refine wlVal (opMove rfl) rfl ?_
    refine wlOn rfl rfl ?_
    refine wlCallS hC hB rfl co29 rfl rfl (ready_ret _ _ hC.holds bs l2 _ s hb10 hn7 r18 t19 hr20 hx21 hsil) ?_; intro w hk hC hB
    refine wlOn rfl rfl ?_
    refine wlVal (opNot rfl) rfl ?_
    refine wlVal (opPickF rfl rfl) rfl ?_
    refine wlThen ?_
    cases h31 : ((readyI s.crew t19))
    · skip
      refine wcCondT rfl ?_
      refine wcSeq ?_
      refine wcRegion ?_
      refine wlVal (opAssign rfl) rfl ?_
      refine wlThen ?_
      refine wcRet ?_
      exact fun ac_ ha => hQ _ _ _ (results1 ha rfl rfl) ha.df (endS hC hw (by simp only [committedI, hf17, h31, cond_true, cond_false, Bool.not_true, Bool.not_false]))
    · skip
      refine wcCondF rfl ?_
      refine wcSkip ?_
      refine wcOf ?_
      refine wcSeq ?_
      refine wcRegion ?_
      refine wlVal (opAssign rfl) rfl ?_
      refine wlThen ?_
      refine wcSeq ?_
      refine wcSeq ?_
      refine wcRegion ?_
      refine wlVal (opMove rfl) rfl ?_
      refine wlVal (opNilCheck rfl) rfl ?_
      refine wlVal (opFieldAddr rfl fo66_3) rfl ?_
      refine wlVal (opLoadOne (v := (.map (some r18.m2))) rfl (RowG.cell hC.holds hF22 (j := 67) (by simp [Word.cells, Stand.cells, Wd.cells, Mark.cells])) one64) rfl ?_
      refine wlRange hM24 (hl26.at_ hC.holds) hC hB rfl mk64 rfl ?_; intro r32 it33 w hC hB hI34
      replace hC : Cx w0 G0 G w ⟨[], [(r32, it33)]⟩ := hC
      replace hB : Bxs G w w0.heap.size [] ⟨[], [(r32, it33)]⟩ := hB
      refine wlThen ?_
      refine wcBlock ?_
      refine WC.sub (wrInd (ι := Int × Nat × Obj × (List Int)) (fun i => match i with | (n, c, it, lf) => lf.length) (fun i G w => match i with | (n, c, it, lf) => Cx w0 G0 G w ⟨[], [(r32, it)]⟩ ∧ Bxs G w w0.heap.size [] ⟨[], [(r32, it)]⟩ ∧ Sl G (.slice A14 s.crew.nodes.length cap15) s.crew.nodes ∧ HasL G Os ∧ SlO G bs Os s ∧ MpO kI G om3 D4 ∧ SlH G D4 H5 s.f ∧ HasO G bs (.cells [(.int .i64 s.crew.faults), (.slice A14 s.crew.nodes.length cap15), (.int .i64 s.low), (.map (some l2))].toArray 70 (0, 0)) ∧ HasO G l2 om3 ∧ HasL G H5 ∧ HasL G r18.blocks ∧ SlotO G r18 t19 ∧ Sl G (.slice A28 t19.q.length cap29) t19.q ∧ MpO kI G r18.o1 t19.pre ∧ MpO kI G r18.o2 t19.com ∧ HasO G r18.m1 r18.o1 ∧ HasO G r18.m2 r18.o2 ∧ RowG G bs 0 [(.int .i64 s.crew.faults), (.slice A14 s.crew.nodes.length cap15), (.int .i64 s.low), (.map (some l2))] ∧ RowG G 0 0 silence.cells ∧ RowG G r18.p 0 ((.int .i64 t19.last.view) :: (t19.last.dig.cells ++ ((.int .i64 t19.prep.view) :: (t19.prep.dig.cells ++ ((.map (some r18.m1)) :: ((.map (some r18.m2)) :: ((.slice A28 t19.q.length cap29) :: []))))))) ∧ ItO kI r18.o2 it r18.m2 lf ∧ n = IntKind.wrap .i64 ((c : Nat) : Int) ∧ c + cntC t19 lf = cntC t19 (t19.com.map (·.1))) (fun i => match i with | (n, c, it, lf) => ((((Env.nil.put 0 (.pointer (some ⟨bs, 0, none⟩))).put 5 (.pointer (some ⟨r18.p, 0, none⟩))).put 6 (.int .i64 n)).put 24 (.pointer (some ⟨r32, 0, none⟩)))) ?_ (0, 0, it33, (List.map (fun x => x.1) t19.com)) _ _ ⟨hC, hB, hn7, hOs, hs, hM8, hH9, hb10, hl11, hL12, hr20, hx21, hq27, hM23, hM24, hl25, hl26, hF13, hsil, hF22, hI34, rfl, (Nat.zero_add _)⟩) (fun _ ha => ((((ha.start.cons ha (t := 0) rfl).cons ha (t := 5) rfl).cons ha (t := 6) rfl).cons ha (t := 24) rfl))
      rintro ⟨n, c, it, lf⟩ G w N0 IH0 ⟨hC, hB, hn7, hOs, hs, hM8, hH9, hb10, hl11, hL12, hr20, hx21, hq27, hM23, hM24, hl25, hl26, hF13, hsil, hF22, hIit, hn, hc⟩
      show WC _ _ _ _ ((((Env.nil.put 0 (.pointer (some ⟨bs, 0, none⟩))).put 5 (.pointer (some ⟨r18.p, 0, none⟩))).put 6 (.int .i64 n)).put 24 (.pointer (some ⟨r32, 0, none⟩))) w
      refine wcSeq ?_
      refine wcRegion ?_
      rcases ItO.next (P := Tryd.prog) (ty := _) hM24 hIit (hC.heldAt 0 rfl) (hl26.at_ hC.holds) with ⟨hle35, hr36⟩ | ⟨la37, k38, lb39, v40, it41, w42, hle35, hw43, hr36, hI44, hc45⟩
      · skip
        refine wlNext0 rfl hr36 rfl ?_
        refine wlVal (opExtract rfl rfl) rfl ?_
        refine wlThen ?_
        refine wcSeq ?_
        refine wcCondF rfl ?_
        refine wcExit ?_
        refine wcOf ?_
        refine wcSeq ?_
        refine wcRegion ?_
        refine wlVal (opMove rfl) rfl ?_
        refine wlVal (opMove rfl) rfl ?_
        refine wlVal (opNilCheck rfl) rfl ?_
        refine wlVal (opFieldAddr rfl fo70_0) rfl ?_
        refine wlVal (opLoadRow (cs := [(.int .i64 s.crew.faults), (.slice A14 s.crew.nodes.length cap15)]) rfl (RowG.range hC.holds (hF13.part (i := 0) (m := 2) rfl)) row53 rfl) rfl ?_
        refine wlCallS hC hB rfl co30 rfl rfl (most_ret _ _ hC.holds _ s.crew (Crew.mkIs (x := s.crew) hn7)) ?_; intro w hk hC hB
        refine wlVal (opGeq rfl rfl) rfl ?_
        refine wlVal (opAssign rfl) rfl ?_
        refine wlThen ?_
        refine wcRet ?_
        exact fun ac_ ha => hQ _ _ _ (results1 ha rfl rfl) ha.df (endS hC hw (congrArg Value.bool (comm_fin hf17 h31 hn hc hle35)))
      · skip
        refine wlNext1 hC hB (i := 0) rfl rfl hw43 hr36 rfl ?_; intro w hC hB
        replace hC : Cx w0 G0 G w ⟨[], [(r32, it41)]⟩ := hC
        replace hB : Bxs G w w0.heap.size [] ⟨[], [(r32, it41)]⟩ := hB
        refine wlVal (opExtract rfl rfl) rfl ?_
        refine wlThen ?_
        refine wcSeq ?_
        refine wcCondT rfl ?_
        refine wcSkip ?_
        refine wcOf ?_
        refine wcBlock ?_
        refine wcSeq ?_
        refine wcRegion ?_
        obtain ⟨v46, y47, hy48, hv49, hr50⟩ := hc45.entry (keyL_int ui3).inj hM24
        obtain rfl := isWd hv49
        refine wlVal (opEntryH rfl (hr50 _ _ (hC.heldAt 0 rfl) (hl26.at_ hC.holds))) rfl ?_
        refine wlVal (opExtract rfl rfl) rfl ?_
        refine wlAlloc hC hB zero63 rfl ?_; intro b51 w hk hC hB
        refine wlStore 0 (vs := y47.cells) (cs := ((.int .i64 0) :: (Dig.zero.cells ++ []))) (cs' := y47.cells) hC hB rfl rfl rfl sz63 rfl (by simp [Word.cells, Stand.cells, Wd.cells, Mark.cells]) (by simp [Word.cells, Stand.cells, Wd.cells, Mark.cells, Value.oneCell']) (by simp [Word.cells, Stand.cells, Wd.cells, Mark.cells]) (by simp [Word.cells, Stand.cells, Wd.cells, Mark.cells]) rfl ?_; intro w hC hB
        refine wlThen ?_
        refine wcSeq ?_
        refine wcDraw fmix (by kernel_rfl) (by kernel_rfl) (vAt [(fun _ v_ => v_ = (.agg y47.cells.toArray)), (fun _ v_ => v_ = (.pointer (some ⟨r18.p, 0, none⟩))), (fun _ v_ => v_ = (.pointer (some ⟨r18.p, 0, none⟩))), (fun _ v_ => v_ = (.pointer (some ⟨r18.p, 0, none⟩))), (fun _ v_ => v_ = (.agg t19.last.cells.toArray)), (fun _ v_ => v_ = (.bool (decide (y47 = t19.last))))]) (fun _ _ G' w => Cx w0 G0 G' w ⟨[], [(r32, it41)]⟩ ∧ Bxs G' w w0.heap.size [(b51, 63, y47.cells)] ⟨[], [(r32, it41)]⟩ ∧ GLe G G') G (vAt_mono ⟨fun _ _ _ _ h => h, fun _ _ _ _ h => h, fun _ _ _ _ h => h, fun _ _ _ _ h => h, fun _ _ _ _ h => h, fun _ _ _ _ h => h, trivial⟩) (fun _ _ => ⟨hC.drew, hB.drew, fun _ _ h => h⟩) ?_ ?_
        · refine dsNone (j := 1) rfl ?_ ?_
          · intro done G w ac_ hd hp hn ⟨hC, hB, hg⟩ hM
            have f8 : ac_.tmps[8]? = some (.pointer (some ⟨b51, 0, none⟩)) := hM.old0 rfl rfl
            have hF : Fr 44 ac_ (Env.nil.put 8 (.pointer (some ⟨b51, 0, none⟩))) := (hM.fr.add f8)
            exact OpVal.draw hF (opLoadRow (cs := y47.cells) rfl (hB.range (i := 0) (m := 33) rfl (by simp [Word.cells, Stand.cells, Wd.cells, Mark.cells])) row63 (by simp [Word.cells, Stand.cells, Wd.cells, Mark.cells])) ⟨G, fun _ _ h => h, ⟨hC, hB, hg⟩, rfl⟩
          refine dsNone (j := 2) rfl ?_ ?_
          · intro done G w ac_ hd hp hn ⟨hC, hB, hg⟩ hM
            have f5 : ac_.tmps[5]? = some (.pointer (some ⟨r18.p, 0, none⟩)) := hM.old0 rfl rfl
            have hF : Fr 44 ac_ (Env.nil.put 5 (.pointer (some ⟨r18.p, 0, none⟩))) := (hM.fr.add f5)
            exact OpVal.draw hF (opMove rfl) ⟨G, fun _ _ h => h, ⟨hC, hB, hg⟩, rfl⟩
          refine dsNone (j := 3) rfl ?_ ?_
          · intro done G w ac_ hd hp hn ⟨hC, hB, hg⟩ hM
            have f30 : ac_.tmps[30]? = some (.pointer (some ⟨r18.p, 0, none⟩)) := hM.eqv 1 rfl (hp 1 rfl) rfl rfl
            have hF : Fr 44 ac_ (Env.nil.put 30 (.pointer (some ⟨r18.p, 0, none⟩))) := (hM.fr.add f30)
            exact OpVal.draw hF (opNilCheck rfl) ⟨G, fun _ _ h => h, ⟨hC, hB, hg⟩, rfl⟩
          refine dsNone (j := 4) rfl ?_ ?_
          · intro done G w ac_ hd hp hn ⟨hC, hB, hg⟩ hM
            have f31 : ac_.tmps[31]? = some (.pointer (some ⟨r18.p, 0, none⟩)) := hM.eqv 2 rfl (hp 2 rfl) rfl rfl
            have hF : Fr 44 ac_ (Env.nil.put 31 (.pointer (some ⟨r18.p, 0, none⟩))) := (hM.fr.add f31)
            exact OpVal.draw hF (opFieldAddr rfl fo66_0) ⟨G, fun _ _ h => h, ⟨hC, hB, hg⟩, rfl⟩
          refine dsNone (j := 5) rfl ?_ ?_
          · intro done G w ac_ hd hp hn ⟨hC, hB, hg⟩ hM
            replace hF22 := hF22.mono hg
            have f32 : ac_.tmps[32]? = some (.pointer (some ⟨r18.p, 0, none⟩)) := hM.eqv 3 rfl (hp 3 rfl) rfl rfl
            have hF : Fr 44 ac_ (Env.nil.put 32 (.pointer (some ⟨r18.p, 0, none⟩))) := (hM.fr.add f32)
            exact OpVal.draw hF (opLoadRow (cs := t19.last.cells) rfl (RowG.range hC.holds (hF22.part (i := 0) (m := 33) (by simp [Word.cells, Stand.cells, Wd.cells, Mark.cells]))) row63 (by simp [Word.cells, Stand.cells, Wd.cells, Mark.cells])) ⟨G, fun _ _ h => h, ⟨hC, hB, hg⟩, rfl⟩
          refine dsNone (j := 6) rfl ?_ ?_
          · intro done G w ac_ hd hp hn ⟨hC, hB, hg⟩ hM
            have f29 : ac_.tmps[29]? = some (.agg y47.cells.toArray) := hM.eqv 0 rfl (hp 0 rfl) rfl rfl
            have f33 : ac_.tmps[33]? = some (.agg t19.last.cells.toArray) := hM.eqv 4 rfl (hp 4 rfl) rfl rfl
            have hF : Fr 44 ac_ ((Env.nil.put 29 (.agg y47.cells.toArray)).put 33 (.agg t19.last.cells.toArray)) := ((hM.fr.add f29).add f33)
            exact OpVal.draw hF (opEqRow (eq63 _ y47 t19.last) eg63 rfl rfl) ⟨G, fun _ _ h => h, ⟨hC, hB, hg⟩, rfl⟩
          exact dsNil
        · intro done G w ac_ hall ⟨hC, hB, hg⟩ hM
          replace hn7 := hn7.mono hg
          replace hOs := hOs.mono hg
          replace hs := hs.mono hg
          replace hM8 := hM8.mono hg
          replace hH9 := hH9.mono hg
          replace hb10 := hb10.mono hg
          replace hl11 := hl11.mono hg
          replace hL12 := hL12.mono hg
          replace hr20 := hr20.mono hg
          replace hx21 := hx21.mono hg
          replace hq27 := hq27.mono hg
          replace hM23 := hM23.mono hg
          replace hM24 := hM24.mono hg
          replace hl25 := hl25.mono hg
          replace hl26 := hl26.mono hg
          replace hI44 := hI44.mono hg
          replace hF13 := hF13.mono hg
          replace hsil := hsil.mono hg
          replace hF22 := hF22.mono hg
          have f0 : ac_.tmps[0]? = some (.pointer (some ⟨bs, 0, none⟩)) := hM.old0 rfl rfl
          have f5 : ac_.tmps[5]? = some (.pointer (some ⟨r18.p, 0, none⟩)) := hM.old0 rfl rfl
          have f6 : ac_.tmps[6]? = some (.int .i64 n) := hM.old0 rfl rfl
          have f24 : ac_.tmps[24]? = some (.pointer (some ⟨r32, 0, none⟩)) := hM.old0 rfl rfl
          have f34 : ac_.tmps[34]? = some (.bool (decide (y47 = t19.last))) := hM.eqv 5 rfl (hall 5 (by decide)) rfl rfl
          refine ⟨(((((Env.nil.put 0 (.pointer (some ⟨bs, 0, none⟩))).put 5 (.pointer (some ⟨r18.p, 0, none⟩))).put 6 (.int .i64 n)).put 24 (.pointer (some ⟨r32, 0, none⟩))).put 34 (.bool (decide (y47 = t19.last)))), (((((hM.fr.add f0).add f5).add f6).add f24).add f34), ?_⟩
          clear hM hall
          refine wcOf ?_
          cases h52 : decide (y47 = t19.last)
          · skip
            refine wcCondF rfl ?_
            refine wcSkip ?_
            refine wrOf ?_
            exact (IH0 (n, c, it41, (la37 ++ lb39)) _ _ ⟨hC, hB.tail, hn7, hOs, hs, hM8, hH9, hb10, hl11, hL12, hr20, hx21, hq27, hM23, hM24, hl25, hl26, hF13, hsil, hF22, hI44, hn, (cntC_step (p := false) (by rw [← hle35]; exact hc) hy48 h52)⟩ (by rw [hle35]; simp)).sub (fun _ ha => ((((ha.start.cons ha (t := 0) rfl).cons ha (t := 5) rfl).cons ha (t := 6) rfl).cons ha (t := 24) rfl))
          · skip
            refine wcCondT rfl ?_
            refine wcRegion ?_
            refine wlVal (opMove rfl) rfl ?_
            refine wlVal (opAdd rfl rfl) rfl ?_
            refine wlVal (opAssign rfl) rfl ?_
            refine wlNil ?_
            refine wrOf ?_
            exact (IH0 (IntKind.wrap .i64 (n + 1), (c + 1), it41, (la37 ++ lb39)) _ _ ⟨hC, hB.tail, hn7, hOs, hs, hM8, hH9, hb10, hl11, hL12, hr20, hx21, hq27, hM23, hM24, hl25, hl26, hF13, hsil, hF22, hI44, (by rw [hn]; exact wrap_inc c), (cntC_step (p := true) (by rw [← hle35]; exact hc) hy48 h52)⟩ (by rw [hle35]; simp)).sub (fun _ ha => ((((ha.start.cons ha (t := 0) rfl).cons ha (t := 5) rfl).cons ha (t := 6) rfl).cons ha (t := 24) rfl))

theorem p_ret (G0 : Gh) (w0 : World) (hw : Holds G0 w0) (bs : Nat) (Os : List (Nat × Obj)) (s : SlS) (hOs : HasL G0 Os) (hs : SlO G0 bs Os s) (hsil : RowG G0 0 0 silence.cells) (hlow : 0 ≤ s.low ∧ s.low ≤ 9007199254740983) :
    RetO Tryd.prog 14 #[.pointer (some ⟨bs, 0, none⟩)] G0 w0 (fun G o v => ∃ A cap, v = (.slice A ((pI s.f (s.low + 1) 8)).length cap) ∧ Ow G o 43 (.slice A ((pI s.f (s.low + 1) 8)).length cap) ((pI s.f (s.low + 1) 8))) := by
  have hC := Cx.refl hw
  have hB : Bxs G0 w0 w0.heap.size [] := Bxs.nil _ _ _
  obtain ⟨v1, l2, om3, D4, H5, e6, hn7, hM8, hH9⟩ := id hs
  obtain ⟨A14, cap15, rfl⟩ := hn7.form
  have hb10 : HasO G0 bs (.cells [(.int .i64 s.crew.faults), (.slice A14 s.crew.nodes.length cap15), (.int .i64 s.low), (.map (some l2))].toArray 70 (0, 0)) := hOs (bs, (.cells [(.int .i64 s.crew.faults), (.slice A14 s.crew.nodes.length cap15), (.int .i64 s.low), (.map (some l2))].toArray 70 (0, 0))) (by rw [e6]; simp)
  have hl11 : HasO G0 l2 om3 := hOs (l2, om3) (by rw [e6]; simp)
  have hL12 : HasL G0 H5 := fun x hx => hOs x (by rw [e6]; simp [hx])
  have hF13 := hb10.row
  refine callsOf Tryd.func14 rfl _ Tryd.ntmps14 rfl _ (argsCons argsNil (t := 0) rfl) ?_; intro Q0 hQ
  refine wcSeq ?_
  refine wcRegion ?_
  refine wlVal (opAssign rfl) rfl ?_
  refine wlThen ?_
  refine wcSeq ?_
  refine wcSeq ?_
  refine wcRegion ?_
  refine wlVal (opMove rfl) rfl ?_
  refine wlCallS hC hB rfl co25 rfl rfl (low_ret _ _ hC.holds bs l2 _ s hb10 hn7) ?_; intro w hk hC hB
  refine wlVal (opAdd rfl rfl) rfl ?_
  refine wlVal (opAssign rfl) rfl ?_
  refine wlThen ?_
  refine wcBlock ?_
  refine WC.sub (wrInd (ι := Int × (Option Addr) × Nat × (Option Bx) × (List Stand) × Nat) (fun i => match i with | (k, outA, outC, outO, out, i) => 8 - i) (fun i G w => match i with | (k, outA, outC, outO, out, i) => Cx w0 G0 G w ∧ Bxs G w w0.heap.size ([] ++ (Option.toList outO ++ [])) ∧ Sl G (.slice A14 s.crew.nodes.length cap15) s.crew.nodes ∧ HasL G Os ∧ SlO G bs Os s ∧ MpO kI G om3 D4 ∧ SlH G D4 H5 s.f ∧ HasO G bs (.cells [(.int .i64 s.crew.faults), (.slice A14 s.crew.nodes.length cap15), (.int .i64 s.low), (.map (some l2))].toArray 70 (0, 0)) ∧ HasO G l2 om3 ∧ HasL G H5 ∧ Ow G outO 43 (.slice outA out.length outC) out ∧ RowG G bs 0 [(.int .i64 s.crew.faults), (.slice A14 s.crew.nodes.length cap15), (.int .i64 s.low), (.map (some l2))] ∧ RowG G 0 0 silence.cells ∧ i ≤ 8 ∧ k = s.low + 1 + i ∧ out = pI s.f (s.low + 1) i) (fun i => match i with | (k, outA, outC, outO, out, i) => (((Env.nil.put 0 (.pointer (some ⟨bs, 0, none⟩))).put 2 (.slice outA out.length outC)).put 3 (.int .i64 k))) ?_ (IntKind.wrap .i64 (s.low + 1), none, 0, none, [], 0) _ _ ⟨hC, hB, hn7, hOs, hs, hM8, hH9, hb10, hl11, hL12, (Ow.nil_ _ 43), hF13, hsil, (Nat.zero_le _), (lowk0 hlow), rfl⟩) (fun _ ha => (((ha.start.cons ha (t := 0) rfl).cons ha (t := 2) rfl).cons ha (t := 3) rfl))
  rintro ⟨k, outA, outC, outO, out, i⟩ G w N0 IH0 ⟨hC, hB, hn7, hOs, hs, hM8, hH9, hb10, hl11, hL12, hOout, hF13, hsil, hi, hkk, hA⟩
  show WC _ _ _ _ (((Env.nil.put 0 (.pointer (some ⟨bs, 0, none⟩))).put 2 (.slice outA out.length outC)).put 3 (.int .i64 k)) w
  refine wcSeq ?_
  refine wcSeq ?_
  refine wcRegion ?_
  refine wlVal (opMove rfl) rfl ?_
  refine wlVal (opMove rfl) rfl ?_
  refine wlCallS hC hB rfl co25 rfl rfl (low_ret _ _ hC.holds bs l2 _ s hb10 hn7) ?_; intro w hk hC hB
  refine wlVal (opAdd rfl rfl) rfl ?_
  refine wlVal (opLeq rfl rfl) rfl ?_
  refine wlThen ?_
  cases h16 : decide (k ≤ IntKind.wrap .i64 (s.low + 8))
  · skip
    refine wcCondF rfl ?_
    refine wcExit ?_
    refine wcOf ?_
    refine wcSeq ?_
    refine wcRegion ?_
    refine wlVal (opMove rfl) rfl ?_
    refine wlVal (opAssign rfl) rfl ?_
    refine wlThen ?_
    refine wcRet ?_
    exact fun ac_ ha => hQ _ _ _ (results1 ha rfl rfl) ha.df (endO (bl := []) (o := outO) (r := []) hC hB (by have e : out = pI s.f (s.low + 1) 8 := lowk_end hlow hi hkk hA h16; rw [← e]; exact ⟨_, _, rfl, hOout⟩))
  · skip
    refine wcCondT rfl ?_
    refine wcSkip ?_
    refine wcOf ?_
    refine wcSeq ?_
    refine wcBlock ?_
    refine wcSeq ?_
    refine wcRegion ?_
    refine wlVal (opMove rfl) rfl ?_
    refine wlVal (opMove rfl) rfl ?_
    refine wlCallG hC hB rfl co28 rfl rfl (slotAt_ret _ _ hC.holds bs Os s hOs hs k) ?_; rintro v17 G w hk hC hB (⟨hf18, rfl⟩ | ⟨r19, t20, hf18, rfl, hr21, hx22⟩)
    · skip
      replace hn7 := hn7.mono hk.gle; replace hOs := hOs.mono hk.gle; replace hs := hs.mono hk.gle; replace hM8 := hM8.mono hk.gle; replace hH9 := hH9.mono hk.gle; replace hb10 := hb10.mono hk.gle; replace hl11 := hl11.mono hk.gle; replace hL12 := hL12.mono hk.gle; replace hOout := hOout.mono hk.gle
      replace hF13 := hF13.mono hk.gle
      replace hsil := hsil.mono hk.gle
      refine wlVal (opAssign rfl) rfl ?_
      refine wlThen ?_
      refine wcSeq ?_
      refine wcDraw fmix (by kernel_rfl) (by kernel_rfl) (vAt [(fun _ v_ => v_ = (.pointer none)), (fun _ v_ => v_ = (.bool false)), (fun _ v_ => v_ = (.bool false)), (fun _ v_ => v_ = undef), (fun _ v_ => v_ = undef), (fun _ v_ => v_ = undef), (fun _ v_ => v_ = undef), (fun _ v_ => v_ = undef), (fun _ v_ => v_ = undef), (fun _ v_ => v_ = (.bool false))]) (fun _ _ G' w => Cx w0 G0 G' w ∧ Bxs G' w w0.heap.size ([] ++ (Option.toList outO ++ [])) ∧ GLe G G') G (vAt_mono ⟨fun _ _ _ _ h => h, fun _ _ _ _ h => h, fun _ _ _ _ h => h, fun _ _ _ _ h => h, fun _ _ _ _ h => h, fun _ _ _ _ h => h, fun _ _ _ _ h => h, fun _ _ _ _ h => h, fun _ _ _ _ h => h, fun _ _ _ _ h => h, trivial⟩) (fun _ _ => ⟨hC.drew, hB.drew, fun _ _ h => h⟩) ?_ ?_
      · refine dsNone (j := 1) rfl ?_ ?_
        · intro done G w ac_ hd hp hn ⟨hC, hB, hg⟩ hM
          have f4 : ac_.tmps[4]? = some (.pointer none) := hM.old0 rfl rfl
          have hF : Fr 44 ac_ (Env.nil.put 4 (.pointer none)) := (hM.fr.add f4)
          exact OpVal.draw hF (opMove rfl) ⟨G, fun _ _ h => h, ⟨hC, hB, hg⟩, rfl⟩
        refine dsNone (j := 2) rfl ?_ ?_
        · intro done G w ac_ hd hp hn ⟨hC, hB, hg⟩ hM
          have f18 : ac_.tmps[18]? = some (.pointer none) := hM.eqv 0 rfl (hp 0 rfl) rfl rfl
          have hF : Fr 44 ac_ (Env.nil.put 18 (.pointer none)) := (hM.fr.add f18)
          exact OpVal.draw hF (OpVal.cast (v' := .bool false) (opPtrNe ip59 rfl rfl) rfl) ⟨G, fun _ _ h => h, ⟨hC, hB, hg⟩, rfl⟩
        refine dsNone (j := 3) rfl ?_ ?_
        · intro done G w ac_ hd hp hn ⟨hC, hB, hg⟩ hM
          have f19 : ac_.tmps[19]? = some (.bool false) := hM.eqv 1 rfl (hp 1 rfl) rfl rfl
          have hF : Fr 44 ac_ (Env.nil.put 19 (.bool false)) := (hM.fr.add f19)
          exact OpVal.draw hF (opMove rfl) ⟨G, fun _ _ h => h, ⟨hC, hB, hg⟩, rfl⟩
        refine dsOff (j := 4) (b' := false) rfl rfl rfl ?_ ?_
        · intro done G w ac_ hd hp hn ⟨hC, hB, hg⟩ hM
          have f20 : ac_.tmps[20]? = some (.bool false) := hM.eqv 2 rfl (hp 2 rfl) rfl rfl
          exact ⟨f20, ⟨hC, hB, hg⟩, rfl⟩
        refine dsOff (j := 5) (b' := false) rfl rfl rfl ?_ ?_
        · intro done G w ac_ hd hp hn ⟨hC, hB, hg⟩ hM
          have f20 : ac_.tmps[20]? = some (.bool false) := hM.eqv 2 rfl (hp 2 rfl) rfl rfl
          exact ⟨f20, ⟨hC, hB, hg⟩, rfl⟩
        refine dsOff (j := 6) (b' := false) rfl rfl rfl ?_ ?_
        · intro done G w ac_ hd hp hn ⟨hC, hB, hg⟩ hM
          have f20 : ac_.tmps[20]? = some (.bool false) := hM.eqv 2 rfl (hp 2 rfl) rfl rfl
          exact ⟨f20, ⟨hC, hB, hg⟩, rfl⟩
        refine dsOff (j := 7) (b' := false) rfl rfl rfl ?_ ?_
        · intro done G w ac_ hd hp hn ⟨hC, hB, hg⟩ hM
          have f20 : ac_.tmps[20]? = some (.bool false) := hM.eqv 2 rfl (hp 2 rfl) rfl rfl
          exact ⟨f20, ⟨hC, hB, hg⟩, rfl⟩
        refine dsOff (j := 8) (b' := false) rfl rfl rfl ?_ ?_
        · intro done G w ac_ hd hp hn ⟨hC, hB, hg⟩ hM
          have f20 : ac_.tmps[20]? = some (.bool false) := hM.eqv 2 rfl (hp 2 rfl) rfl rfl
          exact ⟨f20, ⟨hC, hB, hg⟩, rfl⟩
        refine dsOff (j := 9) (b' := false) rfl rfl rfl ?_ ?_
        · intro done G w ac_ hd hp hn ⟨hC, hB, hg⟩ hM
          have f20 : ac_.tmps[20]? = some (.bool false) := hM.eqv 2 rfl (hp 2 rfl) rfl rfl
          exact ⟨f20, ⟨hC, hB, hg⟩, rfl⟩
        refine dsNone (j := 10) rfl ?_ ?_
        · intro done G w ac_ hd hp hn ⟨hC, hB, hg⟩ hM
          have f20 : ac_.tmps[20]? = some (.bool false) := hM.eqv 2 rfl (hp 2 rfl) rfl rfl
          have f26 : ac_.tmps[26]? = some undef := hM.eqv 8 rfl (hp 8 rfl) rfl rfl
          have hF : Fr 44 ac_ ((Env.nil.put 20 (.bool false)).put 26 undef) := ((hM.fr.add f20).add f26)
          exact OpVal.draw hF (opPickF rfl rfl) ⟨G, fun _ _ h => h, ⟨hC, hB, hg⟩, rfl⟩
        exact dsNil
      · intro done G w ac_ hall ⟨hC, hB, hg⟩ hM
        replace hn7 := hn7.mono hg
        replace hOs := hOs.mono hg
        replace hs := hs.mono hg
        replace hM8 := hM8.mono hg
        replace hH9 := hH9.mono hg
        replace hb10 := hb10.mono hg
        replace hl11 := hl11.mono hg
        replace hL12 := hL12.mono hg
        replace hOout := hOout.mono hg
        replace hF13 := hF13.mono hg
        replace hsil := hsil.mono hg
        have f0 : ac_.tmps[0]? = some (.pointer (some ⟨bs, 0, none⟩)) := hM.old0 rfl rfl
        have f2 : ac_.tmps[2]? = some (.slice outA out.length outC) := hM.old0 rfl rfl
        have f3 : ac_.tmps[3]? = some (.int .i64 k) := hM.old0 rfl rfl
        have f4 : ac_.tmps[4]? = some (.pointer none) := hM.old0 rfl rfl
        have f27 : ac_.tmps[27]? = some (.bool false) := hM.eqv 9 rfl (hall 9 (by decide)) rfl rfl
        refine ⟨(((((Env.nil.put 0 (.pointer (some ⟨bs, 0, none⟩))).put 2 (.slice outA out.length outC)).put 3 (.int .i64 k)).put 4 (.pointer none)).put 27 (.bool false)), (((((hM.fr.add f0).add f2).add f3).add f4).add f27), ?_⟩
        clear hM hall
        refine wcOf ?_
        refine wcCondF rfl ?_
        refine wcSkip ?_
        refine wcOf ?_
        refine wcRegion ?_
        refine wlVal (opMove rfl) rfl ?_
        refine wlVal (opAdd rfl rfl) rfl ?_
        refine wlVal (opAssign rfl) rfl ?_
        refine wlRound ?_
        exact (IH0 (IntKind.wrap .i64 (k + 1), outA, outC, outO, out, (i + 1)) _ _ ⟨hC, hB, hn7, hOs, hs, hM8, hH9, hb10, hl11, hL12, hOout, hF13, hsil, (lowk_lt hlow hkk h16), (lowk_step hlow hkk h16), (by rw [← pI_step hA hkk]; simp only [pAt, hf18, cond_true, cond_false, List.append_nil])⟩ (by have := lowk_lt hlow hkk h16; show 8 - (i + 1) < 8 - i; omega)).sub (fun _ ha => (((ha.start.cons ha (t := 0) rfl).cons ha (t := 2) rfl).cons ha (t := 3) rfl))
    · skip
      replace hn7 := hn7.mono hk.gle; replace hOs := hOs.mono hk.gle; replace hs := hs.mono hk.gle; replace hM8 := hM8.mono hk.gle; replace hH9 := hH9.mono hk.gle; replace hb10 := hb10.mono hk.gle; replace hl11 := hl11.mono hk.gle; replace hL12 := hL12.mono hk.gle; replace hOout := hOout.mono hk.gle
      replace hF13 := hF13.mono hk.gle
      replace hsil := hsil.mono hk.gle
      have hF23 := hx22.row hr21
      have hM24 := hx22.pre
      have hM25 := hx22.com
      have hl26 := hr21.m1
      have hl27 := hr21.m2
      have hq28 := hx22.qSl hr21
      obtain ⟨A29, cap30, e31⟩ := hq28.form
      rw [e31] at hq28 hF23
      refine wlVal (opAssign rfl) rfl ?_
      refine wlThen ?_
      refine wcSeq ?_
      refine wcDraw fmix (by kernel_rfl) (by kernel_rfl) (vAt [(fun _ v_ => v_ = (.pointer (some ⟨r19.p, 0, none⟩))), (fun _ v_ => v_ = (.bool true)), (fun _ v_ => v_ = (.bool true)), (fun _ v_ => v_ = (.pointer (some ⟨r19.p, 0, none⟩))), (fun _ v_ => v_ = (.pointer (some ⟨r19.p, 0, none⟩))), (fun _ v_ => v_ = (.pointer (some ⟨r19.p, 33, none⟩))), (fun _ v_ => v_ = (.agg t20.prep.cells.toArray)), (fun _ v_ => v_ = (.agg silence.cells.toArray)), (fun _ v_ => v_ = (.bool (!(decide (t20.prep = silence))))), (fun _ v_ => v_ = (.bool (!(decide (t20.prep = silence)))))]) (fun _ _ G' w => Cx w0 G0 G' w ∧ Bxs G' w w0.heap.size ([] ++ (Option.toList outO ++ [])) ∧ GLe G G') G (vAt_mono ⟨fun _ _ _ _ h => h, fun _ _ _ _ h => h, fun _ _ _ _ h => h, fun _ _ _ _ h => h, fun _ _ _ _ h => h, fun _ _ _ _ h => h, fun _ _ _ _ h => h, fun _ _ _ _ h => h, fun _ _ _ _ h => h, fun _ _ _ _ h => h, trivial⟩) (fun _ _ => ⟨hC.drew, hB.drew, fun _ _ h => h⟩) ?_ ?_
      · refine dsNone (j := 1) rfl ?_ ?_
        · intro done G w ac_ hd hp hn ⟨hC, hB, hg⟩ hM
          have f4 : ac_.tmps[4]? = some (.pointer (some ⟨r19.p, 0, none⟩)) := hM.old0 rfl rfl
          have hF : Fr 44 ac_ (Env.nil.put 4 (.pointer (some ⟨r19.p, 0, none⟩))) := (hM.fr.add f4)
          exact OpVal.draw hF (opMove rfl) ⟨G, fun _ _ h => h, ⟨hC, hB, hg⟩, rfl⟩
        refine dsNone (j := 2) rfl ?_ ?_
        · intro done G w ac_ hd hp hn ⟨hC, hB, hg⟩ hM
          have f18 : ac_.tmps[18]? = some (.pointer (some ⟨r19.p, 0, none⟩)) := hM.eqv 0 rfl (hp 0 rfl) rfl rfl
          have hF : Fr 44 ac_ (Env.nil.put 18 (.pointer (some ⟨r19.p, 0, none⟩))) := (hM.fr.add f18)
          exact OpVal.draw hF (OpVal.cast (v' := .bool true) (opPtrNe ip59 rfl rfl) rfl) ⟨G, fun _ _ h => h, ⟨hC, hB, hg⟩, rfl⟩
        refine dsNone (j := 3) rfl ?_ ?_
        · intro done G w ac_ hd hp hn ⟨hC, hB, hg⟩ hM
          have f19 : ac_.tmps[19]? = some (.bool true) := hM.eqv 1 rfl (hp 1 rfl) rfl rfl
          have hF : Fr 44 ac_ (Env.nil.put 19 (.bool true)) := (hM.fr.add f19)
          exact OpVal.draw hF (opMove rfl) ⟨G, fun _ _ h => h, ⟨hC, hB, hg⟩, rfl⟩
        refine dsOn (j := 4) rfl rfl ?_ ?_
        · intro done G w ac_ hd hp hn ⟨hC, hB, hg⟩ hM
          have f4 : ac_.tmps[4]? = some (.pointer (some ⟨r19.p, 0, none⟩)) := hM.old0 rfl rfl
          have f20 : ac_.tmps[20]? = some (.bool true) := hM.eqv 2 rfl (hp 2 rfl) rfl rfl
          refine ⟨f20, ?_⟩
          have hF : Fr 44 ac_ (Env.nil.put 4 (.pointer (some ⟨r19.p, 0, none⟩))) := (hM.fr.add f4)
          exact OpVal.draw hF (opMove rfl) ⟨G, fun _ _ h => h, ⟨hC, hB, hg⟩, rfl⟩
        refine dsOn (j := 5) rfl rfl ?_ ?_
        · intro done G w ac_ hd hp hn ⟨hC, hB, hg⟩ hM
          have f21 : ac_.tmps[21]? = some (.pointer (some ⟨r19.p, 0, none⟩)) := hM.eqv 3 rfl (hp 3 rfl) rfl rfl
          have f20 : ac_.tmps[20]? = some (.bool true) := hM.eqv 2 rfl (hp 2 rfl) rfl rfl
          refine ⟨f20, ?_⟩
          have hF : Fr 44 ac_ (Env.nil.put 21 (.pointer (some ⟨r19.p, 0, none⟩))) := (hM.fr.add f21)
          exact OpVal.draw hF (opNilCheck rfl) ⟨G, fun _ _ h => h, ⟨hC, hB, hg⟩, rfl⟩
        refine dsOn (j := 6) rfl rfl ?_ ?_
        · intro done G w ac_ hd hp hn ⟨hC, hB, hg⟩ hM
          have f22 : ac_.tmps[22]? = some (.pointer (some ⟨r19.p, 0, none⟩)) := hM.eqv 4 rfl (hp 4 rfl) rfl rfl
          have f20 : ac_.tmps[20]? = some (.bool true) := hM.eqv 2 rfl (hp 2 rfl) rfl rfl
          refine ⟨f20, ?_⟩
          have hF : Fr 44 ac_ (Env.nil.put 22 (.pointer (some ⟨r19.p, 0, none⟩))) := (hM.fr.add f22)
          exact OpVal.draw hF (opFieldAddr rfl fo66_1) ⟨G, fun _ _ h => h, ⟨hC, hB, hg⟩, rfl⟩
        refine dsOn (j := 7) rfl rfl ?_ ?_
        · intro done G w ac_ hd hp hn ⟨hC, hB, hg⟩ hM
          replace hF23 := hF23.mono hg
          have f23 : ac_.tmps[23]? = some (.pointer (some ⟨r19.p, 33, none⟩)) := hM.eqv 5 rfl (hp 5 rfl) rfl rfl
          have f20 : ac_.tmps[20]? = some (.bool true) := hM.eqv 2 rfl (hp 2 rfl) rfl rfl
          refine ⟨f20, ?_⟩
          have hF : Fr 44 ac_ (Env.nil.put 23 (.pointer (some ⟨r19.p, 33, none⟩))) := (hM.fr.add f23)
          exact OpVal.draw hF (opLoadRow (cs := t20.prep.cells) rfl (RowG.range hC.holds (hF23.part (i := 33) (m := 33) (by simp [Word.cells, Stand.cells, Wd.cells, Mark.cells]))) row63 (by simp [Word.cells, Stand.cells, Wd.cells, Mark.cells])) ⟨G, fun _ _ h => h, ⟨hC, hB, hg⟩, rfl⟩
        refine dsOn (j := 8) rfl rfl ?_ ?_
        · intro done G w ac_ hd hp hn ⟨hC, hB, hg⟩ hM
          replace hsil := hsil.mono hg
          have f20 : ac_.tmps[20]? = some (.bool true) := hM.eqv 2 rfl (hp 2 rfl) rfl rfl
          refine ⟨f20, ?_⟩
          have hF : Fr 44 ac_ Env.nil := hM.fr
          exact OpVal.draw hF (opLoadRow (cs := silence.cells) rfl (RowG.range hC.holds (hsil.part (i := 0) (m := 33) (by simp [Word.cells, Stand.cells, Wd.cells, Mark.cells]))) row63 (by simp [Word.cells, Stand.cells, Wd.cells, Mark.cells])) ⟨G, fun _ _ h => h, ⟨hC, hB, hg⟩, rfl⟩
        refine dsOn (j := 9) rfl rfl ?_ ?_
        · intro done G w ac_ hd hp hn ⟨hC, hB, hg⟩ hM
          have f24 : ac_.tmps[24]? = some (.agg t20.prep.cells.toArray) := hM.eqv 6 rfl (hp 6 rfl) rfl rfl
          have f25 : ac_.tmps[25]? = some (.agg silence.cells.toArray) := hM.eqv 7 rfl (hp 7 rfl) rfl rfl
          have f20 : ac_.tmps[20]? = some (.bool true) := hM.eqv 2 rfl (hp 2 rfl) rfl rfl
          refine ⟨f20, ?_⟩
          have hF : Fr 44 ac_ ((Env.nil.put 24 (.agg t20.prep.cells.toArray)).put 25 (.agg silence.cells.toArray)) := ((hM.fr.add f24).add f25)
          exact OpVal.draw hF (opNeRow (eq63 _ t20.prep silence) eg63 rfl rfl) ⟨G, fun _ _ h => h, ⟨hC, hB, hg⟩, rfl⟩
        refine dsNone (j := 10) rfl ?_ ?_
        · intro done G w ac_ hd hp hn ⟨hC, hB, hg⟩ hM
          have f20 : ac_.tmps[20]? = some (.bool true) := hM.eqv 2 rfl (hp 2 rfl) rfl rfl
          have f26 : ac_.tmps[26]? = some (.bool (!(decide (t20.prep = silence)))) := hM.eqv 8 rfl (hp 8 rfl) rfl rfl
          have hF : Fr 44 ac_ ((Env.nil.put 20 (.bool true)).put 26 (.bool (!(decide (t20.prep = silence))))) := ((hM.fr.add f20).add f26)
          exact OpVal.draw hF (opPickT rfl rfl) ⟨G, fun _ _ h => h, ⟨hC, hB, hg⟩, rfl⟩
        exact dsNil
      · intro done G w ac_ hall ⟨hC, hB, hg⟩ hM
        replace hn7 := hn7.mono hg
        replace hOs := hOs.mono hg
        replace hs := hs.mono hg
        replace hM8 := hM8.mono hg
        replace hH9 := hH9.mono hg
        replace hb10 := hb10.mono hg
        replace hl11 := hl11.mono hg
        replace hL12 := hL12.mono hg
        replace hOout := hOout.mono hg
        replace hr21 := hr21.mono hg
        replace hx22 := hx22.mono hg
        replace hq28 := hq28.mono hg
        replace hM24 := hM24.mono hg
        replace hM25 := hM25.mono hg
        replace hl26 := hl26.mono hg
        replace hl27 := hl27.mono hg
        replace hF13 := hF13.mono hg
        replace hsil := hsil.mono hg
        replace hF23 := hF23.mono hg
        have f0 : ac_.tmps[0]? = some (.pointer (some ⟨bs, 0, none⟩)) := hM.old0 rfl rfl
        have f2 : ac_.tmps[2]? = some (.slice outA out.length outC) := hM.old0 rfl rfl
        have f3 : ac_.tmps[3]? = some (.int .i64 k) := hM.old0 rfl rfl
        have f4 : ac_.tmps[4]? = some (.pointer (some ⟨r19.p, 0, none⟩)) := hM.old0 rfl rfl
        have f27 : ac_.tmps[27]? = some (.bool (!(decide (t20.prep = silence)))) := hM.eqv 9 rfl (hall 9 (by decide)) rfl rfl
        refine ⟨(((((Env.nil.put 0 (.pointer (some ⟨bs, 0, none⟩))).put 2 (.slice outA out.length outC)).put 3 (.int .i64 k)).put 4 (.pointer (some ⟨r19.p, 0, none⟩))).put 27 (.bool (!(decide (t20.prep = silence))))), (((((hM.fr.add f0).add f2).add f3).add f4).add f27), ?_⟩
        clear hM hall
        refine wcOf ?_
        cases h32 : decide (t20.prep = silence)
        · skip
          refine wcCondT rfl ?_
          refine wcDraw fmix (by kernel_rfl) (by kernel_rfl) (vAt [(fun _ v_ => v_ = (.slice outA out.length outC)), (fun _ v_ => v_ = (.int .i64 k)), (fun _ v_ => v_ = (.pointer (some ⟨r19.p, 0, none⟩))), (fun _ v_ => v_ = (.pointer (some ⟨r19.p, 0, none⟩))), (fun _ v_ => v_ = (.pointer (some ⟨r19.p, 33, none⟩))), (fun _ v_ => v_ = (.pointer (some ⟨r19.p, 34, none⟩))), (fun _ v_ => v_ = (.agg t20.prep.dig.cells.toArray)), (fun _ v_ => v_ = (.pointer (some ⟨r19.p, 0, none⟩))), (fun _ v_ => v_ = (.pointer (some ⟨r19.p, 0, none⟩))), (fun _ v_ => v_ = (.pointer (some ⟨r19.p, 33, none⟩))), (fun _ v_ => v_ = (.pointer (some ⟨r19.p, 33, none⟩))), (fun _ v_ => v_ = (.int .i64 t20.prep.view)), (fun _ v_ => v_ = (.agg ((.int .i64 k) :: (t20.prep.dig.cells ++ ((.int .i64 t20.prep.view) :: []))).toArray)), (fun G v => ∃ bb_, v = .slice (some ⟨bb_, 0, none⟩) 1 1 ∧ Sl G v ([(Stand.mk k t20.prep.dig t20.prep.view)] : List Stand)), (fun _ _ => True), (fun _ _ => True)]) (fun done ac_ G' w => GLe G G' ∧ ∃ (A14_ : Option Addr) (C14_ : Nat) (O14_ : Option Bx), Cx w0 G0 G' w ∧ (done 14 = true → ac_.tmps[42]? = some (.slice A14_ (((out ++ [(Stand.mk k t20.prep.dig t20.prep.view)])).length) C14_) ∧ Ow G' O14_ 43 (.slice A14_ (((out ++ [(Stand.mk k t20.prep.dig t20.prep.view)])).length) C14_) ((out ++ [(Stand.mk k t20.prep.dig t20.prep.view)]) : List Stand)) ∧ (done 15 = true → ac_.tmps[2]? = some (.slice A14_ (((out ++ [(Stand.mk k t20.prep.dig t20.prep.view)])).length) C14_)) ∧ Bxs G' w w0.heap.size (([] ++ (Option.toList (bif done 14 then O14_ else outO) ++ [])))) G (vAt_mono ⟨fun _ _ _ _ h => h, fun _ _ _ _ h => h, fun _ _ _ _ h => h, fun _ _ _ _ h => h, fun _ _ _ _ h => h, fun _ _ _ _ h => h, fun _ _ _ _ h => h, fun _ _ _ _ h => h, fun _ _ _ _ h => h, fun _ _ _ _ h => h, fun _ _ _ _ h => h, fun _ _ _ _ h => h, fun _ _ _ _ h => h, fun _ _ _ hg => fun ⟨b, h1, h2⟩ => ⟨b, h1, h2.mono hg⟩, fun _ _ _ _ h => h, fun _ _ _ _ h => h, trivial⟩) (fun _ _ => ⟨fun _ _ h => h, none, 0, none, hC.drew, (fun h => by cases h), (fun h => by cases h), hB.drew⟩) ?_ ?_
          · refine dsNone (j := 1) rfl ?_ ?_
            · intro done G w ac_ hd hp hn ⟨hg, A14_, C14_, O14_, hC, hT14, hT15, hBx⟩ hM
              have hB := hBx
              have f2 : ac_.tmps[2]? = some (.slice outA out.length outC) := hM.oldK rfl (k := 15) rfl rfl (hn 15 _ rfl rfl)
              have hF : Fr 44 ac_ (Env.nil.put 2 (.slice outA out.length outC)) := (hM.fr.add f2)
              exact OpVal.draw hF (opMove rfl) ⟨G, fun _ _ h => h, ⟨hg, A14_, C14_, O14_, hC, (fun h => ⟨(put_other rfl).trans (hT14 h).1, (hT14 h).2⟩), (fun h => (put_other rfl).trans (hT15 h)), hBx⟩, rfl⟩
            refine dsNone (j := 2) rfl ?_ ?_
            · intro done G w ac_ hd hp hn ⟨hg, A14_, C14_, O14_, hC, hT14, hT15, hBx⟩ hM
              have hB := hBx
              have f3 : ac_.tmps[3]? = some (.int .i64 k) := hM.old0 rfl rfl
              have hF : Fr 44 ac_ (Env.nil.put 3 (.int .i64 k)) := (hM.fr.add f3)
              exact OpVal.draw hF (opMove rfl) ⟨G, fun _ _ h => h, ⟨hg, A14_, C14_, O14_, hC, (fun h => ⟨(put_other rfl).trans (hT14 h).1, (hT14 h).2⟩), (fun h => (put_other rfl).trans (hT15 h)), hBx⟩, rfl⟩
            refine dsNone (j := 3) rfl ?_ ?_
            · intro done G w ac_ hd hp hn ⟨hg, A14_, C14_, O14_, hC, hT14, hT15, hBx⟩ hM
              have hB := hBx
              have f4 : ac_.tmps[4]? = some (.pointer (some ⟨r19.p, 0, none⟩)) := hM.old0 rfl rfl
              have hF : Fr 44 ac_ (Env.nil.put 4 (.pointer (some ⟨r19.p, 0, none⟩))) := (hM.fr.add f4)
              exact OpVal.draw hF (opMove rfl) ⟨G, fun _ _ h => h, ⟨hg, A14_, C14_, O14_, hC, (fun h => ⟨(put_other rfl).trans (hT14 h).1, (hT14 h).2⟩), (fun h => (put_other rfl).trans (hT15 h)), hBx⟩, rfl⟩
            refine dsNone (j := 4) rfl ?_ ?_
            · intro done G w ac_ hd hp hn ⟨hg, A14_, C14_, O14_, hC, hT14, hT15, hBx⟩ hM
              have hB := hBx
              have f30 : ac_.tmps[30]? = some (.pointer (some ⟨r19.p, 0, none⟩)) := hM.eqv 2 rfl (hp 2 rfl) rfl rfl
              have hF : Fr 44 ac_ (Env.nil.put 30 (.pointer (some ⟨r19.p, 0, none⟩))) := (hM.fr.add f30)
              exact OpVal.draw hF (opNilCheck rfl) ⟨G, fun _ _ h => h, ⟨hg, A14_, C14_, O14_, hC, (fun h => ⟨(put_other rfl).trans (hT14 h).1, (hT14 h).2⟩), (fun h => (put_other rfl).trans (hT15 h)), hBx⟩, rfl⟩
            refine dsNone (j := 5) rfl ?_ ?_
            · intro done G w ac_ hd hp hn ⟨hg, A14_, C14_, O14_, hC, hT14, hT15, hBx⟩ hM
              have hB := hBx
              have f31 : ac_.tmps[31]? = some (.pointer (some ⟨r19.p, 0, none⟩)) := hM.eqv 3 rfl (hp 3 rfl) rfl rfl
              have hF : Fr 44 ac_ (Env.nil.put 31 (.pointer (some ⟨r19.p, 0, none⟩))) := (hM.fr.add f31)
              exact OpVal.draw hF (opFieldAddr rfl fo66_1) ⟨G, fun _ _ h => h, ⟨hg, A14_, C14_, O14_, hC, (fun h => ⟨(put_other rfl).trans (hT14 h).1, (hT14 h).2⟩), (fun h => (put_other rfl).trans (hT15 h)), hBx⟩, rfl⟩
            refine dsNone (j := 6) rfl ?_ ?_
            · intro done G w ac_ hd hp hn ⟨hg, A14_, C14_, O14_, hC, hT14, hT15, hBx⟩ hM
              have hB := hBx
              have f32 : ac_.tmps[32]? = some (.pointer (some ⟨r19.p, 33, none⟩)) := hM.eqv 4 rfl (hp 4 rfl) rfl rfl
              have hF : Fr 44 ac_ (Env.nil.put 32 (.pointer (some ⟨r19.p, 33, none⟩))) := (hM.fr.add f32)
              exact OpVal.draw hF (opFieldAddr rfl fo63_1) ⟨G, fun _ _ h => h, ⟨hg, A14_, C14_, O14_, hC, (fun h => ⟨(put_other rfl).trans (hT14 h).1, (hT14 h).2⟩), (fun h => (put_other rfl).trans (hT15 h)), hBx⟩, rfl⟩
            refine dsNone (j := 7) rfl ?_ ?_
            · intro done G w ac_ hd hp hn ⟨hg, A14_, C14_, O14_, hC, hT14, hT15, hBx⟩ hM
              have hB := hBx
              replace hF23 := hF23.mono hg
              have f33 : ac_.tmps[33]? = some (.pointer (some ⟨r19.p, 34, none⟩)) := hM.eqv 5 rfl (hp 5 rfl) rfl rfl
              have hF : Fr 44 ac_ (Env.nil.put 33 (.pointer (some ⟨r19.p, 34, none⟩))) := (hM.fr.add f33)
              exact OpVal.draw hF (opLoadRow (cs := t20.prep.dig.cells) rfl (RowG.range hC.holds (hF23.part (i := 34) (m := 32) (by simp [Word.cells, Stand.cells, Wd.cells, Mark.cells]))) row38 (by simp [Word.cells, Stand.cells, Wd.cells, Mark.cells])) ⟨G, fun _ _ h => h, ⟨hg, A14_, C14_, O14_, hC, (fun h => ⟨(put_other rfl).trans (hT14 h).1, (hT14 h).2⟩), (fun h => (put_other rfl).trans (hT15 h)), hBx⟩, rfl⟩
            refine dsNone (j := 8) rfl ?_ ?_
            · intro done G w ac_ hd hp hn ⟨hg, A14_, C14_, O14_, hC, hT14, hT15, hBx⟩ hM
              have hB := hBx
              have f4 : ac_.tmps[4]? = some (.pointer (some ⟨r19.p, 0, none⟩)) := hM.old0 rfl rfl
              have hF : Fr 44 ac_ (Env.nil.put 4 (.pointer (some ⟨r19.p, 0, none⟩))) := (hM.fr.add f4)
              exact OpVal.draw hF (opMove rfl) ⟨G, fun _ _ h => h, ⟨hg, A14_, C14_, O14_, hC, (fun h => ⟨(put_other rfl).trans (hT14 h).1, (hT14 h).2⟩), (fun h => (put_other rfl).trans (hT15 h)), hBx⟩, rfl⟩
            refine dsNone (j := 9) rfl ?_ ?_
            · intro done G w ac_ hd hp hn ⟨hg, A14_, C14_, O14_, hC, hT14, hT15, hBx⟩ hM
              have hB := hBx
              have f35 : ac_.tmps[35]? = some (.pointer (some ⟨r19.p, 0, none⟩)) := hM.eqv 7 rfl (hp 7 rfl) rfl rfl
              have hF : Fr 44 ac_ (Env.nil.put 35 (.pointer (some ⟨r19.p, 0, none⟩))) := (hM.fr.add f35)
              exact OpVal.draw hF (opNilCheck rfl) ⟨G, fun _ _ h => h, ⟨hg, A14_, C14_, O14_, hC, (fun h => ⟨(put_other rfl).trans (hT14 h).1, (hT14 h).2⟩), (fun h => (put_other rfl).trans (hT15 h)), hBx⟩, rfl⟩
            refine dsNone (j := 10) rfl ?_ ?_
            · intro done G w ac_ hd hp hn ⟨hg, A14_, C14_, O14_, hC, hT14, hT15, hBx⟩ hM
              have hB := hBx
              have f36 : ac_.tmps[36]? = some (.pointer (some ⟨r19.p, 0, none⟩)) := hM.eqv 8 rfl (hp 8 rfl) rfl rfl
              have hF : Fr 44 ac_ (Env.nil.put 36 (.pointer (some ⟨r19.p, 0, none⟩))) := (hM.fr.add f36)
              exact OpVal.draw hF (opFieldAddr rfl fo66_1) ⟨G, fun _ _ h => h, ⟨hg, A14_, C14_, O14_, hC, (fun h => ⟨(put_other rfl).trans (hT14 h).1, (hT14 h).2⟩), (fun h => (put_other rfl).trans (hT15 h)), hBx⟩, rfl⟩
            refine dsNone (j := 11) rfl ?_ ?_
            · intro done G w ac_ hd hp hn ⟨hg, A14_, C14_, O14_, hC, hT14, hT15, hBx⟩ hM
              have hB := hBx
              have f37 : ac_.tmps[37]? = some (.pointer (some ⟨r19.p, 33, none⟩)) := hM.eqv 9 rfl (hp 9 rfl) rfl rfl
              have hF : Fr 44 ac_ (Env.nil.put 37 (.pointer (some ⟨r19.p, 33, none⟩))) := (hM.fr.add f37)
              exact OpVal.draw hF (opFieldAddr rfl fo63_0) ⟨G, fun _ _ h => h, ⟨hg, A14_, C14_, O14_, hC, (fun h => ⟨(put_other rfl).trans (hT14 h).1, (hT14 h).2⟩), (fun h => (put_other rfl).trans (hT15 h)), hBx⟩, rfl⟩
            refine dsNone (j := 12) rfl ?_ ?_
            · intro done G w ac_ hd hp hn ⟨hg, A14_, C14_, O14_, hC, hT14, hT15, hBx⟩ hM
              have hB := hBx
              replace hF23 := hF23.mono hg
              have f38 : ac_.tmps[38]? = some (.pointer (some ⟨r19.p, 33, none⟩)) := hM.eqv 10 rfl (hp 10 rfl) rfl rfl
              have hF : Fr 44 ac_ (Env.nil.put 38 (.pointer (some ⟨r19.p, 33, none⟩))) := (hM.fr.add f38)
              exact OpVal.draw hF (opLoadOne (v := (.int .i64 t20.prep.view)) rfl (RowG.cell hC.holds hF23 (j := 33) (by simp [Word.cells, Stand.cells, Wd.cells, Mark.cells])) one3) ⟨G, fun _ _ h => h, ⟨hg, A14_, C14_, O14_, hC, (fun h => ⟨(put_other rfl).trans (hT14 h).1, (hT14 h).2⟩), (fun h => (put_other rfl).trans (hT15 h)), hBx⟩, rfl⟩
            refine dsNone (j := 13) rfl ?_ ?_
            · intro done G w ac_ hd hp hn ⟨hg, A14_, C14_, O14_, hC, hT14, hT15, hBx⟩ hM
              have hB := hBx
              have f29 : ac_.tmps[29]? = some (.int .i64 k) := hM.eqv 1 rfl (hp 1 rfl) rfl rfl
              have f34 : ac_.tmps[34]? = some (.agg t20.prep.dig.cells.toArray) := hM.eqv 6 rfl (hp 6 rfl) rfl rfl
              have f39 : ac_.tmps[39]? = some (.int .i64 t20.prep.view) := hM.eqv 11 rfl (hp 11 rfl) rfl rfl
              have hF : Fr 44 ac_ (((Env.nil.put 29 (.int .i64 k)).put 34 (.agg t20.prep.dig.cells.toArray)).put 39 (.int .i64 t20.prep.view)) := (((hM.fr.add f29).add f34).add f39)
              exact OpVal.draw hF (opBuild (ps := [(0, .tmp 29), (1, .tmp 34), (2, .tmp 39)]) (cs := ((.int .i64 k) :: (t20.prep.dig.cells ++ ((.int .i64 t20.prep.view) :: [])))) so43 zero43 rfl rfl (by first | (simp [buildCells, Value.cells]; done) | simp [buildCells, Value.cells, Word.cells, Stand.cells, Wd.cells, Mark.cells])) ⟨G, fun _ _ h => h, ⟨hg, A14_, C14_, O14_, hC, (fun h => ⟨(put_other rfl).trans (hT14 h).1, (hT14 h).2⟩), (fun h => (put_other rfl).trans (hT15 h)), hBx⟩, (by show _ = _; rfl)⟩
            refine dsNone (j := 14) rfl ?_ ?_
            · intro done G w ac_ hd hp hn ⟨hg, A14_, C14_, O14_, hC, hT14, hT15, hBx⟩ hM
              have hB := hBx
              have f40 : ac_.tmps[40]? = some (.agg ((.int .i64 k) :: (t20.prep.dig.cells ++ ((.int .i64 t20.prep.view) :: []))).toArray) := hM.eqv 12 rfl (hp 12 rfl) rfl rfl
              have hF : Fr 44 ac_ (Env.nil.put 40 (.agg ((.int .i64 k) :: (t20.prep.dig.cells ++ ((.int .i64 t20.prep.view) :: []))).toArray)) := (hM.fr.add f40)
              exact drawBsl hF (α := Stand) (ps := [(0, .tmp 40)]) (xs := [(Stand.mk k t20.prep.dig t20.prep.view)]) (rows := [((.int .i64 k) :: (t20.prep.dig.cells ++ ((.int .i64 t20.prep.view) :: [])))]) elo33 rfl rfl hC.holds rfl rfl rfl ⟨rfl, trivial⟩ (fun b G' w' hk hr => ⟨G', hk.gle, ⟨fun b o h => hk.gle b o (hg b o h), A14_, C14_, O14_, hC.trans hk, (fun h => ⟨(put_other rfl).trans (hT14 h).1, (hT14 h).2.mono hk.gle⟩), (fun h => (put_other rfl).trans (hT15 h)), hBx.ext hk⟩, ⟨b, rfl, hr⟩⟩)
            refine dsNone (j := 15) rfl ?_ ?_
            · intro done G w ac_ hd hp hn ⟨hg, A14_, C14_, O14_, hC, hT14, hT15, hBx⟩ hM
              have hB := hBx
              replace hOout := hOout.mono hg
              have f28 : ac_.tmps[28]? = some (.slice outA out.length outC) := hM.eqv 0 rfl (hp 0 rfl) rfl rfl
              obtain ⟨v_, f41, ⟨b33, rfl, hs34⟩⟩ := hM.new 13 _ _ rfl (hp 13 rfl) rfl
              have hF : Fr 44 ac_ ((Env.nil.put 28 (.slice outA out.length outC)).put 41 (.slice (some ⟨b33, 0, none⟩) 1 1)) := ((hM.fr.add f28).add f41)
              simp only [hd, cond_false] at hBx
              exact drawAppend (α := Stand) (bl := []) (o := outO) (r := []) hF elo33 hC hBx rfl rfl hOout hs34 (by have q := pI_len s.f (s.low + 1) i; rw [← hA] at q; simp; omega) rfl (fun A_ cap_ o_ w' hC hB hO_ => ⟨G, fun _ _ h => h, ⟨hg, A_, cap_, o_, hC, (fun _ => ⟨put_same hM.sz rfl, hO_⟩), (fun h => by simp [Done.set, hn 15 _ rfl rfl] at h), by simpa [Done.set] using hB⟩, trivial⟩)
            refine dsNone (j := 16) rfl ?_ ?_
            · intro done G w ac_ hd hp hn ⟨hg, A14_, C14_, O14_, hC, hT14, hT15, hBx⟩ hM
              have hB := hBx
              have f42 := (hT14 (hp 14 rfl)).1
              have hF : Fr 44 ac_ (Env.nil.put 42 (.slice A14_ (((out ++ [(Stand.mk k t20.prep.dig t20.prep.view)])).length) C14_)) := (hM.fr.add f42)
              exact OpVal.draw hF (opAssign rfl) ⟨G, fun _ _ h => h, ⟨hg, A14_, C14_, O14_, hC, (fun h => ⟨(put_other rfl).trans (hT14 h).1, (hT14 h).2⟩), (fun _ => put_same hM.sz rfl), hBx⟩, trivial⟩
            exact dsNil
          · intro done G w ac_ hall ⟨hg, A36, cap37, o38, hC, hT14, hT15, hB⟩ hM
            replace hn7 := hn7.mono hg
            replace hOs := hOs.mono hg
            replace hs := hs.mono hg
            replace hM8 := hM8.mono hg
            replace hH9 := hH9.mono hg
            replace hb10 := hb10.mono hg
            replace hl11 := hl11.mono hg
            replace hL12 := hL12.mono hg
            replace hOout := hOout.mono hg
            replace hr21 := hr21.mono hg
            replace hx22 := hx22.mono hg
            replace hq28 := hq28.mono hg
            replace hM24 := hM24.mono hg
            replace hM25 := hM25.mono hg
            replace hl26 := hl26.mono hg
            replace hl27 := hl27.mono hg
            replace hF13 := hF13.mono hg
            replace hsil := hsil.mono hg
            replace hF23 := hF23.mono hg
            have f0 : ac_.tmps[0]? = some (.pointer (some ⟨bs, 0, none⟩)) := hM.old0 rfl rfl
            have f2 := hT15 (hall 15 (by decide))
            have f3 : ac_.tmps[3]? = some (.int .i64 k) := hM.old0 rfl rfl
            have hO35 := (hT14 (hall 14 (by decide))).2
            try simp only [hall 14 (by decide), cond_true] at hB
            replace hB : Bxs G w w0.heap.size ([] ++ (Option.toList o38 ++ [])) := hB
            refine ⟨(((Env.nil.put 0 (.pointer (some ⟨bs, 0, none⟩))).put 2 (.slice A36 (((out ++ [(Stand.mk k t20.prep.dig t20.prep.view)])).length) cap37)).put 3 (.int .i64 k)), (((hM.fr.add f0).add f2).add f3), ?_⟩
            clear hM hall
            refine wcOf ?_
            refine wcRegion ?_
            refine wlVal (opMove rfl) rfl ?_
            refine wlVal (opAdd rfl rfl) rfl ?_
            refine wlVal (opAssign rfl) rfl ?_
            refine wlRound ?_
            exact (IH0 (IntKind.wrap .i64 (k + 1), A36, cap37, o38, (out ++ [(Stand.mk k t20.prep.dig t20.prep.view)]), (i + 1)) _ _ ⟨hC, hB, hn7, hOs, hs, hM8, hH9, hb10, hl11, hL12, hO35, hF13, hsil, (lowk_lt hlow hkk h16), (lowk_step hlow hkk h16), (by rw [← pI_step hA hkk]; simp only [pAt, hf18, h32, cond_true, cond_false, List.append_nil])⟩ (by have := lowk_lt hlow hkk h16; show 8 - (i + 1) < 8 - i; omega)).sub (fun _ ha => (((ha.start.cons ha (t := 0) rfl).cons ha (t := 2) rfl).cons ha (t := 3) rfl))
        · skip
          refine wcCondF rfl ?_
          refine wcSkip ?_
          refine wcOf ?_
          refine wcRegion ?_
          refine wlVal (opMove rfl) rfl ?_
          refine wlVal (opAdd rfl rfl) rfl ?_
          refine wlVal (opAssign rfl) rfl ?_
          refine wlRound ?_
          exact (IH0 (IntKind.wrap .i64 (k + 1), outA, outC, outO, out, (i + 1)) _ _ ⟨hC, hB, hn7, hOs, hs, hM8, hH9, hb10, hl11, hL12, hOout, hF13, hsil, (lowk_lt hlow hkk h16), (lowk_step hlow hkk h16), (by rw [← pI_step hA hkk]; simp only [pAt, hf18, h32, cond_true, cond_false, List.append_nil])⟩ (by have := lowk_lt hlow hkk h16; show 8 - (i + 1) < 8 - i; omega)).sub (fun _ ha => (((ha.start.cons ha (t := 0) rfl).cons ha (t := 2) rfl).cons ha (t := 3) rfl))

theorem q_ret (G0 : Gh) (w0 : World) (hw : Holds G0 w0) (bs : Nat) (Os : List (Nat × Obj)) (s : SlS) (hOs : HasL G0 Os) (hs : SlO G0 bs Os s) (hlow : 0 ≤ s.low ∧ s.low ≤ 9007199254740983) (hqb : ∀ k t, s.f k = some t → t.q.length ≤ 1000000) :
    RetO Tryd.prog 15 #[.pointer (some ⟨bs, 0, none⟩)] G0 w0 (fun G o v => ∃ A cap, v = (.slice A ((qI s.f (s.low + 1) 8)).length cap) ∧ Ow G o 43 (.slice A ((qI s.f (s.low + 1) 8)).length cap) ((qI s.f (s.low + 1) 8))) := by
  have hC := Cx.refl hw
  have hB : Bxs G0 w0 w0.heap.size [] := Bxs.nil _ _ _
  obtain ⟨v1, l2, om3, D4, H5, e6, hn7, hM8, hH9⟩ := id hs
  obtain ⟨A14, cap15, rfl⟩ := hn7.form
  have hb10 : HasO G0 bs (.cells [(.int .i64 s.crew.faults), (.slice A14 s.crew.nodes.length cap15), (.int .i64 s.low), (.map (some l2))].toArray 70 (0, 0)) := hOs (bs, (.cells [(.int .i64 s.crew.faults), (.slice A14 s.crew.nodes.length cap15), (.int .i64 s.low), (.map (some l2))].toArray 70 (0, 0))) (by rw [e6]; simp)
  have hl11 : HasO G0 l2 om3 := hOs (l2, om3) (by rw [e6]; simp)
  have hL12 : HasL G0 H5 := fun x hx => hOs x (by rw [e6]; simp [hx])
  have hF13 := hb10.row
  refine callsOf Tryd.func15 rfl _ Tryd.ntmps15 rfl _ (argsCons argsNil (t := 0) rfl) ?_; intro Q0 hQ
  refine wcSeq ?_
  refine wcRegion ?_
  refine wlVal (opAssign rfl) rfl ?_
  refine wlThen ?_
  refine wcSeq ?_
  refine wcSeq ?_
  refine wcRegion ?_
  refine wlVal (opMove rfl) rfl ?_
  refine wlCallS hC hB rfl co25 rfl rfl (low_ret _ _ hC.holds bs l2 _ s hb10 hn7) ?_; intro w hk hC hB
  refine wlVal (opAdd rfl rfl) rfl ?_
  refine wlVal (opAssign rfl) rfl ?_
  refine wlThen ?_
  refine wcBlock ?_
  refine WC.sub (wrInd (ι := Int × (Option Addr) × Nat × (Option Bx) × (List Stand) × Nat) (fun i => match i with | (k, outA, outC, outO, out, i) => 8 - i) (fun i G w => match i with | (k, outA, outC, outO, out, i) => Cx w0 G0 G w ∧ Bxs G w w0.heap.size ([] ++ (Option.toList outO ++ [])) ∧ Sl G (.slice A14 s.crew.nodes.length cap15) s.crew.nodes ∧ HasL G Os ∧ SlO G bs Os s ∧ MpO kI G om3 D4 ∧ SlH G D4 H5 s.f ∧ HasO G bs (.cells [(.int .i64 s.crew.faults), (.slice A14 s.crew.nodes.length cap15), (.int .i64 s.low), (.map (some l2))].toArray 70 (0, 0)) ∧ HasO G l2 om3 ∧ HasL G H5 ∧ Ow G outO 43 (.slice outA out.length outC) out ∧ RowG G bs 0 [(.int .i64 s.crew.faults), (.slice A14 s.crew.nodes.length cap15), (.int .i64 s.low), (.map (some l2))] ∧ i ≤ 8 ∧ k = s.low + 1 + i ∧ out = qI s.f (s.low + 1) i) (fun i => match i with | (k, outA, outC, outO, out, i) => (((Env.nil.put 0 (.pointer (some ⟨bs, 0, none⟩))).put 2 (.slice outA out.length outC)).put 3 (.int .i64 k))) ?_ (IntKind.wrap .i64 (s.low + 1), none, 0, none, [], 0) _ _ ⟨hC, hB, hn7, hOs, hs, hM8, hH9, hb10, hl11, hL12, (Ow.nil_ _ 43), hF13, (Nat.zero_le _), (lowk0 hlow), rfl⟩) (fun _ ha => (((ha.start.cons ha (t := 0) rfl).cons ha (t := 2) rfl).cons ha (t := 3) rfl))
  rintro ⟨k, outA, outC, outO, out, i⟩ G w N0 IH0 ⟨hC, hB, hn7, hOs, hs, hM8, hH9, hb10, hl11, hL12, hOout, hF13, hi, hkk, hA⟩
  show WC _ _ _ _ (((Env.nil.put 0 (.pointer (some ⟨bs, 0, none⟩))).put 2 (.slice outA out.length outC)).put 3 (.int .i64 k)) w
  refine wcSeq ?_
  refine wcSeq ?_
  refine wcRegion ?_
  refine wlVal (opMove rfl) rfl ?_
  refine wlVal (opMove rfl) rfl ?_
  refine wlCallS hC hB rfl co25 rfl rfl (low_ret _ _ hC.holds bs l2 _ s hb10 hn7) ?_; intro w hk hC hB
  refine wlVal (opAdd rfl rfl) rfl ?_
  refine wlVal (opLeq rfl rfl) rfl ?_
  refine wlThen ?_
  cases h16 : decide (k ≤ IntKind.wrap .i64 (s.low + 8))
  · skip
    refine wcCondF rfl ?_
    refine wcExit ?_
    refine wcOf ?_
    refine wcSeq ?_
    refine wcRegion ?_
    refine wlVal (opMove rfl) rfl ?_
    refine wlVal (opAssign rfl) rfl ?_
    refine wlThen ?_
    refine wcRet ?_
    exact fun ac_ ha => hQ _ _ _ (results1 ha rfl rfl) ha.df (endO (bl := []) (o := outO) (r := []) hC hB (by have e : out = qI s.f (s.low + 1) 8 := lowk_end hlow hi hkk hA h16; rw [← e]; exact ⟨_, _, rfl, hOout⟩))
  · skip
    refine wcCondT rfl ?_
    refine wcSkip ?_
    refine wcOf ?_
    refine wcSeq ?_
    refine wcBlock ?_
    refine wcSeq ?_
    refine wcRegion ?_
    refine wlVal (opMove rfl) rfl ?_
    refine wlVal (opMove rfl) rfl ?_
    refine wlCallG hC hB rfl co28 rfl rfl (slotAt_ret _ _ hC.holds bs Os s hOs hs k) ?_; rintro v17 G w hk hC hB (⟨hf18, rfl⟩ | ⟨r19, t20, hf18, rfl, hr21, hx22⟩)
    · skip
      replace hn7 := hn7.mono hk.gle; replace hOs := hOs.mono hk.gle; replace hs := hs.mono hk.gle; replace hM8 := hM8.mono hk.gle; replace hH9 := hH9.mono hk.gle; replace hb10 := hb10.mono hk.gle; replace hl11 := hl11.mono hk.gle; replace hL12 := hL12.mono hk.gle; replace hOout := hOout.mono hk.gle
      replace hF13 := hF13.mono hk.gle
      refine wlVal (opAssign rfl) rfl ?_
      refine wlThen ?_
      refine wcSeq ?_
      refine wcRegion ?_
      refine wlVal (opMove rfl) rfl ?_
      refine wlVal (OpVal.cast (v' := .bool false) (opPtrNe ip59 rfl rfl) rfl) rfl ?_
      refine wlThen ?_
      refine wcCondF rfl ?_
      refine wcSkip ?_
      refine wcOf ?_
      refine wcRegion ?_
      refine wlVal (opMove rfl) rfl ?_
      refine wlVal (opAdd rfl rfl) rfl ?_
      refine wlVal (opAssign rfl) rfl ?_
      refine wlRound ?_
      exact (IH0 (IntKind.wrap .i64 (k + 1), outA, outC, outO, out, (i + 1)) _ _ ⟨hC, hB, hn7, hOs, hs, hM8, hH9, hb10, hl11, hL12, hOout, hF13, (lowk_lt hlow hkk h16), (lowk_step hlow hkk h16), (by rw [← qI_step hA hkk]; simp only [qAt, hf18, cond_true, cond_false, List.append_nil])⟩ (by have := lowk_lt hlow hkk h16; show 8 - (i + 1) < 8 - i; omega)).sub (fun _ ha => (((ha.start.cons ha (t := 0) rfl).cons ha (t := 2) rfl).cons ha (t := 3) rfl))
    · skip
      replace hn7 := hn7.mono hk.gle; replace hOs := hOs.mono hk.gle; replace hs := hs.mono hk.gle; replace hM8 := hM8.mono hk.gle; replace hH9 := hH9.mono hk.gle; replace hb10 := hb10.mono hk.gle; replace hl11 := hl11.mono hk.gle; replace hL12 := hL12.mono hk.gle; replace hOout := hOout.mono hk.gle
      replace hF13 := hF13.mono hk.gle
      have hF23 := hx22.row hr21
      have hM24 := hx22.pre
      have hM25 := hx22.com
      have hl26 := hr21.m1
      have hl27 := hr21.m2
      have hq28 := hx22.qSl hr21
      obtain ⟨A29, cap30, e31⟩ := hq28.form
      rw [e31] at hq28 hF23
      refine wlVal (opAssign rfl) rfl ?_
      refine wlThen ?_
      refine wcSeq ?_
      refine wcRegion ?_
      refine wlVal (opMove rfl) rfl ?_
      refine wlVal (OpVal.cast (v' := .bool true) (opPtrNe ip59 rfl rfl) rfl) rfl ?_
      refine wlThen ?_
      refine wcCondT rfl ?_
      refine wcRegion ?_
      refine wlVal (opMove rfl) rfl ?_
      refine wlVal (opMove rfl) rfl ?_
      refine wlVal (opNilCheck rfl) rfl ?_
      refine wlVal (opFieldAddr rfl fo66_4) rfl ?_
      refine wlVal (opLoadOne (v := (.slice A29 t20.q.length cap30)) rfl (RowG.cell hC.holds hF23 (j := 68) (by simp [Word.cells, Stand.cells, Wd.cells, Mark.cells])) one33) rfl ?_
      refine wlAppend (α := Stand) (bl := []) (o := outO) (r := []) elo33 hC hB rfl rfl hOout hq28 (by have q := qI_len s.f (s.low + 1) hqb i; rw [← hA] at q; have q2 := hqb _ _ hf18; simp; omega) rfl rfl ?_; intro A32 cap33 o34 w hC hB hO35
      refine wlVal (opAssign rfl) rfl ?_
      refine wlNil ?_
      refine wcOf ?_
      refine wcRegion ?_
      refine wlVal (opMove rfl) rfl ?_
      refine wlVal (opAdd rfl rfl) rfl ?_
      refine wlVal (opAssign rfl) rfl ?_
      refine wlRound ?_
      exact (IH0 (IntKind.wrap .i64 (k + 1), A32, cap33, o34, (out ++ t20.q), (i + 1)) _ _ ⟨hC, hB, hn7, hOs, hs, hM8, hH9, hb10, hl11, hL12, hO35, hF13, (lowk_lt hlow hkk h16), (lowk_step hlow hkk h16), (by rw [← qI_step hA hkk]; simp only [qAt, hf18, cond_true, cond_false, List.append_nil])⟩ (by have := lowk_lt hlow hkk h16; show 8 - (i + 1) < 8 - i; omega)).sub (fun _ ha => (((ha.start.cons ha (t := 0) rfl).cons ha (t := 2) rfl).cons ha (t := 3) rfl))

end Go.Proofs.YtljcgggflgbenaaDoor
