/- What functions of the slots seat return, part 1. No condition. -/
import Derived.Test.YtljcgggflgbenaaGreatDoorZlG0
import Derived.Test.YtljcgggflgbenaaGreatDoorZlObj
import Derived.Test.YtljcgggflgbenaaGreatDoorGxSlot
set_option linter.all false
namespace Go.Proofs.YtljcgggflgbenaaGreatDoor
open Go Go.Gx Go.RowKit
def silence : Wd := ⟨-1, Dig.zero⟩
def goesI (w : Wd) (v : Int) (d : Dig) : Int := bif decide (v < w.view) then 190 else bif (w.view == v) && !decide (w.dig = d) then 151 else 0
def leaderI (c : Crew) (v : Int) : Int := bif (check c != 0) || decide (v < 0) then 0 else c.nodes.getD (v.toNat % c.nodes.length) 0
theorem check_pos {c : Crew} (h : (check c != 0) = false) : 0 < c.nodes.length := by
  cases hn : c.nodes with
  | cons _ _ => simp
  | nil =>
    exfalso
    have h2 : check c = 0 := by simpa using h
    unfold check at h2
    cases h3 : decide (c.faults < 0) with
    | true => simp [h3] at h2
    | false =>
      cases h4 : decide (2 < c.faults) with
      | true => simp [h4] at h2
      | false =>
        have h3 := of_decide_eq_false h3
        have h4 := of_decide_eq_false h4
        have h5 : c.faults = 0 ∨ c.faults = 1 ∨ c.faults = 2 := by omega
        rw [hn] at h2
        rcases h5 with h5 | h5 | h5 <;> rw [h5] at h2 <;> exact absurd h2 (by decide)
theorem tmod_len {v : Int} {n : Nat} (hn : 0 < n) (hv : decide (v < 0) = false) : Int.tmod v (n : Int) = ((v.toNat % n : Nat) : Int) := by
  have hv := of_decide_eq_false hv
  have : v = ((v.toNat : Nat) : Int) := by omega
  rw [this, Int.toNat_natCast]; rfl
def cntK (x : SlotS) (ld : Int) (l : List Int) : Nat := l.countP (fun k => decide (mget x.pre k = some x.last) && (k != ld))
theorem cntK_step {x : SlotS} {ld k : Int} {a b : List Int} {c t : Nat} {p q : Bool} {y : Wd} (h : c + cntK x ld (a ++ k :: b) = t) (hy : mget x.pre k = some y) (hp : decide (y = x.last) = p) (hq : p = true → (k != ld) = q) : (bif p && q then c + 1 else c) + cntK x ld (a ++ b) = t := by
  rw [← h]
  unfold cntK
  rw [List.countP_append, List.countP_append, List.countP_cons, hy]
  have e : decide (some y = some x.last) = p := by rw [← hp]; congr 1; simp
  rw [e]
  cases p with
  | false => simp
  | true => rw [hq rfl]; cases q <;> simp; omega
theorem wrap_inc (c : Nat) : IntKind.wrap .i64 (IntKind.wrap .i64 (c : Int) + 1) = IntKind.wrap .i64 (((c + 1 : Nat) : Int)) := by
  simp only [IntKind.wrap, IntKind.bits, IntKind.signed]; simp; omega
def readyI (c : Crew) (x : SlotS) : Bool := bif decide (x.last = silence) then false else decide (IntKind.wrap .i64 (2 * c.faults) ≤ IntKind.wrap .i64 (cntK x (leaderI c x.last.view) (x.pre.map (·.1)) : Int))
def preparedI (s : SlS) (k : Int) : Bool := match s.f k with | none => false | some x => readyI s.crew x
def atI (s : SlS) (k : Int) : Stand × Bool := match s.f k with | none => (Stand.mk 0 Dig.zero 0, false) | some x => bif decide (x.last = silence) then (Stand.mk 0 Dig.zero 0, false) else (Stand.mk k x.last.dig x.last.view, true)
def cntC (x : SlotS) (l : List Int) : Nat := l.countP (fun k => decide (mget x.com k = some x.last))
theorem cntC_step {x : SlotS} {k : Int} {a b : List Int} {c t : Nat} {p : Bool} {y : Wd} (h : c + cntC x (a ++ k :: b) = t) (hy : mget x.com k = some y) (hp : decide (y = x.last) = p) : (bif p then c + 1 else c) + cntC x (a ++ b) = t := by
  rw [← h]
  unfold cntC
  rw [List.countP_append, List.countP_append, List.countP_cons, hy]
  have e : decide (some y = some x.last) = p := by rw [← hp]; congr 1; simp
  rw [e]
  cases p <;> simp; omega
def committedI (s : SlS) (k : Int) : Bool := match s.f k with | none => false | some x => bif !readyI s.crew x then false else decide (most s.crew ≤ IntKind.wrap .i64 (cntC x (x.com.map (·.1)) : Int))
theorem comm_fin {s : SlS} {k : Int} {x : SlotS} {n : Int} {c : Nat} {lf : List Int} (h8 : s.f k = some x) (h9 : readyI s.crew x = true) (hn : n = IntKind.wrap .i64 ((c : Nat) : Int)) (hc : c + cntC x lf = cntC x (x.com.map (·.1))) (h0 : lf = []) :
    decide (most s.crew ≤ n) = committedI s k := by
  subst h0
  have hc : c = cntC x (x.com.map (·.1)) := hc
  simp only [committedI, h8, h9, Bool.not_true, cond_false]; rw [hn, hc]
def newS : SlotS := ⟨silence, silence, [], [], []⟩
def lookS (c : Crew) (t : SlotS) : SlotS := bif readyI c t then SlotS.mk t.last t.last t.pre t.com t.q else t
theorem slS_self {s : SlS} {k : Int} {t : SlotS} (h : s.f k = some t) : SlS.mk s.crew s.low (upd s.f k t) = s := by
  have : upd s.f k t = s.f := by
    funext x; unfold upd; split
    · rename_i e; subst e; exact h.symm
    · rfl
  rw [this]
theorem zne : ((0 : Int) != 0) = false := rfl
def wordOf (m : List (Int × Wd)) (n : Int) : Wd := (mget m n).getD (Wd.mk 0 Dig.zero)
def saysI (m : List (Int × Wd)) (node view : Int) (d : Dig) : Int := bif (mget m node).isSome then goesI (wordOf m node) view d else 0
def hearI (pre : Bool) (s : SlS) (node view k : Int) (d : Dig) (leads : Bool) : SlS × Int :=
  bif !has s.crew node then (s, 110) else bif !viewB view then (s, 190) else bif !leads && (leaderI s.crew view == node) then (s, 2) else
  match s.f k with
  | none => (s, 150)
  | some x =>
    bif pre then bif saysI x.pre node view d != 0 then (s, saysI x.pre node view d) else (SlS.mk s.crew s.low (upd s.f k (SlotS.mk x.last x.prep (mput x.pre node (Wd.mk view d)) x.com x.q)), 0)
    else bif saysI x.com node view d != 0 then (s, saysI x.com node view d) else (SlS.mk s.crew s.low (upd s.f k (SlotS.mk x.last x.prep x.pre (mput x.com node (Wd.mk view d)) x.q)), 0)
theorem upd_at (f : Int → Option SlotS) (k : Int) (t : SlotS) : upd f k t k = some t := by simp [upd]
theorem hearI_dead {pre : Bool} {s : SlS} {node view k : Int} {d : Dig} {leads : Bool} (h : ((hearI pre s node view k d leads).2 == 0) = true) (hn : (hearI pre s node view k d leads).1.f k = none) : False := by
  revert h hn
  unfold hearI
  cases has s.crew node <;> cases viewB view <;> cases (!leads && (leaderI s.crew view == node)) <;> simp only [Bool.not_true, Bool.not_false, cond_true, cond_false] <;> try (intro h _; simp at h; done)
  cases hk : s.f k with
  | none => intro h _; simp at h
  | some x =>
    simp only []
    cases pre <;> simp only [cond_true, cond_false]
    · cases saysI x.com node view d != 0 <;> simp only [cond_true, cond_false] <;> intro _ hn
      · rw [upd_at] at hn; cases hn
      · rw [hk] at hn; cases hn
    · cases saysI x.pre node view d != 0 <;> simp only [cond_true, cond_false] <;> intro _ hn
      · rw [upd_at] at hn; cases hn
      · rw [hk] at hn; cases hn
def prepI (s : SlS) (node view k : Int) (d : Dig) : SlS × Int :=
  bif (hearI true s node view k d false).2 == 0 then
    match (hearI true s node view k d false).1.f k with
    | none => hearI true s node view k d false
    | some t => (SlS.mk (hearI true s node view k d false).1.crew (hearI true s node view k d false).1.low (upd (hearI true s node view k d false).1.f k (lookS (hearI true s node view k d false).1.crew t)), (hearI true s node view k d false).2)
  else hearI true s node view k d false
def pAt (f : Int → Option SlotS) (k : Int) : List Stand := match f k with | none => [] | some x => bif decide (x.prep = silence) then [] else [Stand.mk k x.prep.dig x.prep.view]
def pI (f : Int → Option SlotS) (k : Int) : Nat → List Stand
  | 0 => []
  | i + 1 => pI f k i ++ pAt f (k + i)
def qAt (f : Int → Option SlotS) (k : Int) : List Stand := match f k with | none => [] | some x => x.q
def qI (f : Int → Option SlotS) (k : Int) : Nat → List Stand
  | 0 => []
  | i + 1 => qI f k i ++ qAt f (k + i)
theorem pI_len (f : Int → Option SlotS) (k : Int) : ∀ i, (pI f k i).length ≤ i
  | 0 => Nat.le_refl _
  | i + 1 => by
    have := pI_len f k i
    have h : (pAt f (k + i)).length ≤ 1 := by
      unfold pAt; split
      · simp
      · rename_i x _; cases decide (x.prep = silence) <;> simp
    simp only [pI, List.length_append]; omega
theorem qI_len (f : Int → Option SlotS) (k : Int) (h : ∀ k t, f k = some t → t.q.length ≤ 1000000) : ∀ i, (qI f k i).length ≤ 1000000 * i
  | 0 => Nat.le_refl _
  | i + 1 => by
    have := qI_len f k h i
    have h : (qAt f (k + i)).length ≤ 1000000 := by
      unfold qAt; split
      · simp
      · rename_i x hx; exact h _ _ hx
    simp only [qI, List.length_append]; omega
theorem pI_step {f : Int → Option SlotS} {l k : Int} {i : Nat} {o : List Stand} (hA : o = pI f l i) (hk : k = l + i) : o ++ pAt f k = pI f l (i + 1) := by rw [hA, hk]; rfl
theorem qI_step {f : Int → Option SlotS} {l k : Int} {i : Nat} {o : List Stand} (hA : o = qI f l i) (hk : k = l + i) : o ++ qAt f k = qI f l (i + 1) := by rw [hA, hk]; rfl
theorem lowk0 {l : Int} (h : 0 ≤ l ∧ l ≤ 9007199254740983) : IntKind.wrap .i64 (l + 1) = l + 1 + ((0 : Nat) : Int) := by rw [IntWalk.i64_in _ (by omega)]; simp
theorem lowk_lt {l k : Int} {i : Nat} (h : 0 ≤ l ∧ l ≤ 9007199254740983) (hk : k = l + 1 + i) (hc : decide (k ≤ IntKind.wrap .i64 (l + 8)) = true) : i + 1 ≤ 8 := by
  have hc := of_decide_eq_true hc; rw [IntWalk.i64_in _ (by omega)] at hc; omega
theorem lowk_step {l k : Int} {i : Nat} (h : 0 ≤ l ∧ l ≤ 9007199254740983) (hk : k = l + 1 + i) (hc : decide (k ≤ IntKind.wrap .i64 (l + 8)) = true) : IntKind.wrap .i64 (k + 1) = l + 1 + ((i + 1 : Nat) : Int) := by
  have := lowk_lt h hk hc; rw [IntWalk.i64_in _ (by omega)]; omega
theorem lowk_end {l k : Int} {i : Nat} {α : Type} {o : α} {g : Nat → α} (h : 0 ≤ l ∧ l ≤ 9007199254740983) (hi : i ≤ 8) (hk : k = l + 1 + i) (hA : o = g i) (hc : decide (k ≤ IntKind.wrap .i64 (l + 8)) = false) : o = g 8 := by
  have hc := of_decide_eq_false hc; rw [IntWalk.i64_in _ (by omega)] at hc
  have : i = 8 := by omega
  rw [hA, this]
theorem ready_fin {cr : Crew} {x : SlotS} {n : Int} {c : Nat} {lf : List Int} (h9 : decide (x.last = silence) = false) (hn : n = IntKind.wrap .i64 ((c : Nat) : Int)) (hc : c + cntK x (leaderI cr x.last.view) lf = cntK x (leaderI cr x.last.view) (x.pre.map (·.1))) (h0 : lf = []) :
    decide (IntKind.wrap .i64 (2 * cr.faults) ≤ n) = readyI cr x := by
  subst h0
  have hc : c = cntK x (leaderI cr x.last.view) (x.pre.map (·.1)) := hc
  simp only [readyI, h9, cond_false]; rw [hn, hc]
theorem fo78_0 : fieldOk Tryz.prog 78 0 0 = true := by kernel_rfl
theorem fo78_1 : fieldOk Tryz.prog 78 1 1 = true := by kernel_rfl
theorem eg37 : Tryz.prog.eqGuardType Tryz.prog.depth 37 = false := by kernel_rfl
theorem fo81_0 : fieldOk Tryz.prog 81 0 0 = true := by kernel_rfl
theorem row78 : rowOk Tryz.prog 78 33 = true := by kernel_rfl
theorem eg78 : Tryz.prog.eqGuardType Tryz.prog.depth 78 = false := by kernel_rfl
theorem fa78 : fieldsAre Tryz.prog 78 [(3, 0), (37, 1)] = true := by kernel_rfl
theorem fo56_0 : fieldOk Tryz.prog 56 0 0 = true := by kernel_rfl
theorem co85 : callOk Tryz.prog 85 = true := by kernel_rfl
theorem fo81_2 : fieldOk Tryz.prog 81 2 66 = true := by kernel_rfl
theorem one79 : oneOk Tryz.prog 79 = true := by kernel_rfl
theorem mk79 : mapKV Tryz.prog 79 3 78 = true := by kernel_rfl
theorem zero78 : (Tryz.prog.info? 78).bind (fun i => i.zero.map Value.cells) = some (((.int .i64 0) :: (Dig.zero.cells ++ [])) : List Value).toArray := by kernel_rfl
theorem sz78 : (Tryz.prog.info? 78).map (·.size) = some 33 := by kernel_rfl
theorem ip26 : isPtr Tryz.prog 26 = true := by kernel_rfl
theorem fo56_2 : fieldOk Tryz.prog 56 2 3 = true := by kernel_rfl
theorem one54 : oneOk Tryz.prog 54 = true := by kernel_rfl
theorem mk54 : mapKV Tryz.prog 54 3 75 = true := by kernel_rfl
theorem co48 : callOk Tryz.prog 48 = true := by kernel_rfl
theorem fo56_1 : fieldOk Tryz.prog 56 1 2 = true := by kernel_rfl
theorem zv75 : (Tryz.prog.info? 75).bind (fun i => i.zero) = some (.pointer none) := by kernel_rfl
theorem co47 : callOk Tryz.prog 47 = true := by kernel_rfl
theorem ip75 : isPtr Tryz.prog 75 = true := by kernel_rfl
theorem co59 : callOk Tryz.prog 59 = true := by kernel_rfl
theorem zero44 : (Tryz.prog.info? 44).bind (fun i => i.zero.map Value.cells) = some (((.int .i64 0) :: (Dig.zero.cells ++ ((.int .i64 0) :: []))) : List Value).toArray := by kernel_rfl
theorem so44 : structOk Tryz.prog 44 [(0, 1), (1, 32), (33, 1)] = true := by kernel_rfl
theorem fo81_3 : fieldOk Tryz.prog 81 3 67 = true := by kernel_rfl
theorem co60 : callOk Tryz.prog 60 = true := by kernel_rfl
theorem co11 : callOk Tryz.prog 11 = true := by kernel_rfl
theorem fo81_1 : fieldOk Tryz.prog 81 1 33 = true := by kernel_rfl
theorem elo38 : elemOk Tryz.prog 38 44 34 48 = true := by kernel_rfl
theorem fo81_4 : fieldOk Tryz.prog 81 4 68 = true := by kernel_rfl
theorem one38 : oneOk Tryz.prog 38 = true := by kernel_rfl
theorem eq37 (d : Nat) (x y : Dig) (w : World) : (Op.equalIn (d + 2) 37 (.agg x.cells.toArray) (.agg y.cells.toArray)).run Tryz.prog w = .ok (decide (x = y)) w := run_equalIn_dig by37 x y w
theorem eq78 (d : Nat) (x y : Wd) (w : World) : (Op.equalIn (d + 4) 78 (.agg x.cells.toArray) (.agg y.cells.toArray)).run Tryz.prog w = .ok (decide (x = y)) w := by
  have h : decide (x = y) = ((x.view == y.view) && (decide (x.dig = y.dig) && true)) := by rw [Bool.eq_iff_iff]; cases x; cases y; simp
  rw [h]; exact run_equalIn_fields fa78 ⟨_, _, _, _, run_part_one one3 (v := .int .i64 x.view) (by simp [Wd.cells]), run_part_one one3 (v := .int .i64 y.view) (by simp [Wd.cells]), fun w => run_equalIn_int w _ 3 _ .i64 _ _ ui3, ⟨_, _, _, _, run_part_row' row37 (r := x.dig.cells) (by simp [Wd.cells]), run_part_row' row37 (r := y.dig.cells) (by simp [Wd.cells]), fun w => eq37 _ x.dig y.dig w, rfl, rfl⟩, rfl⟩ w
theorem goes_ret (G0 : Gh) (w0 : World) (hw : Holds G0 w0) (wd : Wd) (v : Int) (d : Dig) :
  RetS Tryz.prog 50 #[.agg wd.cells.toArray, .int .i64 v, .agg d.cells.toArray] G0 w0 (.int .i64 ((goesI wd v d))) := by
 have hC := Cx.refl hw
 have hB : Bxs G0 w0 w0.heap.size [] := Bxs.nil _ _ _
 refine callsOf Tryz.func50 rfl _ Tryz.ntmps50 rfl _ (argsCons (argsCons (argsCons argsNil (t := 0) rfl) (t := 1) rfl) (t := 2) rfl) ?_; intro Q0 hQ
 refine wcSeq <| wcRegion ?_
 refine wlBox (cs := wd.cells) hC hB rfl rfl rfl ?_; intro b1 w hk hC hB
 refine wlBox (cs := d.cells) hC hB rfl rfl rfl ?_; intro b2 w hk hC hB
 refine A_ rfl <| wlThen <| wcSeq ?_
 refine wcBlock (wcSeq (wcRegion ?_))
 refine V_ (opFieldAddr rfl fo78_0) <| V_ (opLoadOne (v := (.int .i64 wd.view)) rfl (hB.cell (i := 1) rfl (by simp [cl_])) one3) <| M_ rfl <| V_ (opGtr rfl rfl) <| A_ rfl <| wlThen ?_
 cases h3 : decide (v < wd.view)
 ·
  refine wcCondF rfl <| wcSeq <| wcRegion <| V_ (opFieldAddr rfl fo78_0) <| V_ (opLoadOne (v := (.int .i64 wd.view)) rfl (hB.cell (i := 1) rfl (by simp [cl_])) one3) <| M_ rfl <| V_ (opEql rfl rfl) <| M_ rfl ?_
  cases h4 : wd.view == v
  ·
   refine wlOff rfl rfl rfl rfl <| wlOff rfl rfl rfl rfl <| wlOff rfl rfl rfl rfl <| wlOff rfl rfl rfl rfl <| V_ (opPickF rfl rfl) <| A_ rfl <| wlThen <| wcCondF rfl <| wcSkip <| wcOf <| wcSeq <| wcRegion <| A_ rfl <| wlThen <| wcRet ?_
   exact r1_ hQ rfl rfl (endS hC hw (by simp only [goesI, h3, h4, ta_]))
  ·
   refine wlOn rfl rfl <| V_ (opFieldAddr rfl fo78_1) <| wlOn rfl rfl <| V_ (opLoadRow (cs := wd.dig.cells) rfl (hB.range (i := 1) (m := 32) rfl (by simp [cl_])) row37 (by simp [cl_])) <| wlOn rfl rfl <| V_ (opLoadRow (cs := d.cells) rfl (hB.range (i := 0) (m := 32) rfl (by simp [cl_])) row37 (by simp [cl_])) <| wlOn rfl rfl <| V_ (opNeRow (eq37 _ wd.dig d) eg37 rfl rfl) <| V_ (opPickT rfl rfl) <| A_ rfl <| wlThen ?_
   cases h5 : decide (wd.dig = d)
   ·
    refine wcCondT rfl <| wcSeq <| wcRegion <| A_ rfl <| wlThen <| wcRet ?_
    exact r1_ hQ rfl rfl (endS hC hw (by simp only [goesI, h3, h4, h5, ta_]))
   ·
    refine wcCondF rfl <| wcSkip <| wcOf <| wcSeq <| wcRegion <| A_ rfl <| wlThen <| wcRet ?_
    exact r1_ hQ rfl rfl (endS hC hw (by simp only [goesI, h3, h4, h5, ta_]))
 ·
  refine wcCondT rfl <| wcSeq <| wcRegion <| A_ rfl <| wlThen <| wcRet ?_
  exact r1_ hQ rfl rfl (endS hC hw (by simp only [goesI, h3, ta_]))

theorem leader_ret (G0 : Gh) (w0 : World) (hw : Holds G0 w0) (csc : List Value) (c : Crew) (hc : Rp.Is G0 csc c) (v : Int) :
  RetS Tryz.prog 85 #[.agg csc.toArray, .int .i64 v] G0 w0 (.int .i64 ((leaderI c v))) := by
 have hC := Cx.refl hw
 have hB : Bxs G0 w0 w0.heap.size [] := Bxs.nil _ _ _
 obtain ⟨v1, rfl, hs2⟩ := Crew.opIs hc
 obtain ⟨A3, cap4, rfl⟩ := hs2.form
 refine callsOf Tryz.func85 rfl _ Tryz.ntmps85 rfl _ (argsCons (argsCons argsNil (t := 0) rfl) (t := 1) rfl) ?_; intro Q0 hQ
 refine wcSeq <| wcRegion ?_
 refine wlBox (cs := [(.int .i64 c.faults), (.slice A3 c.nodes.length cap4)]) hC hB rfl rfl rfl ?_; intro b5 w hk hC hB
 refine A_ rfl ?_
 refine wlThen (wcSeq (wcSeq (wcRegion ?_)))
 refine V_ (opLoadRow (cs := [(.int .i64 c.faults), (.slice A3 c.nodes.length cap4)]) rfl (hB.range (i := 0) (m := 2) rfl rfl) row24 rfl) ?_
 refine wlCallS hC hB rfl co23 rfl rfl (check_ret _ _ hC.holds _ c (Crew.mkIs (x := c) hs2)) ?_; intro w hk hC hB
 refine V_ (opNeq rfl rfl) <| M_ rfl ?_
 cases h6 : ((check c)) != 0
 ·
  refine wlOn rfl rfl <| M_ rfl <| wlOn rfl rfl <| V_ (opLss rfl rfl) <| V_ (opPickF rfl rfl) <| wlThen ?_
  cases h7 : decide (v < 0)
  ·
   refine wcCondF rfl <| wcSkip <| wcOf <| wcSeq ?_
   refine wcDrawS 10 [0, 1, 0, 0, 8, 24, 60, 127, 255, 511] fmix (by kernel_rfl) (by kernel_rfl) rfl hC hB ?_; intro w hC hB
   refine D_ 0 rfl rfl (fun _ => (opFieldAddr rfl fo24_1)) <| E_ 1 rfl rfl (opLoadOne (v := (.slice A3 c.nodes.length cap4)) rfl (hB.cell (i := 0) rfl rfl) one22) <| D_ 2 rfl rfl (fun _ => opMove rfl) <| D_ 3 rfl rfl (fun _ => (opFieldAddr rfl fo24_1)) <| E_ 4 rfl rfl (opLoadOne (v := (.slice A3 c.nodes.length cap4)) rfl (hB.cell (i := 0) rfl rfl) one22) <| D_ 5 rfl rfl (fun _ => (opLen rfl isl22)) <| D_ 6 rfl rfl (fun _ => (OpVal.cast (v' := .int .i64 (((v.toNat % c.nodes.length) : Nat) : Int)) (opRem rfl rfl (by have q := check_pos h6; omega)) (congrArg (Value.int .i64) (tmod_len (check_pos h6) h7)))) ?_
   obtain ⟨x8, hx9⟩ : ∃ y_, c.nodes[(v.toNat % c.nodes.length)]? = some y_ := ⟨_, List.getElem?_eq_getElem (Nat.mod_lt _ (check_pos h6))⟩
   obtain ⟨b10, o11, row12, hA15, hr13, hi14⟩ := hs2.elem hx9; subst hA15
   obtain rfl := hi14
   refine D_ 7 rfl rfl (fun _ => (opIndexAddr rfl rfl slo22 (Nat.mod_lt _ (check_pos h6)))) <| E_ 8 rfl rfl (opLoadOne (v := (.int .i64 x8)) rfl (RowG.cell0 hC.holds hr13 rfl) one3) <| D_ 9 rfl rfl (fun _ => opAssign rfl) <| wdDone (by kernel_rfl) <| wcOf <| wcRet ?_
   exact r1_ hQ rfl rfl (endS hC hw (by simp only [leaderI, h6, h7, cond_true, cond_false, Bool.not_true, Bool.not_false, Bool.or_true, Bool.true_or, Bool.or_false, Bool.false_or]; rw [List.getD_eq_getElem?_getD, hx9]; rfl))
  ·
   refine wcCondT rfl <| wcSeq <| wcRegion <| A_ rfl <| wlThen <| wcRet ?_
   exact r1_ hQ rfl rfl (endS hC hw (by simp only [leaderI, h6, h7, cond_true, cond_false, Bool.not_true, Bool.not_false, Bool.or_true, Bool.true_or, Bool.or_false, Bool.false_or]))
 ·
  refine wlOff rfl rfl rfl rfl <| wlOff rfl rfl rfl rfl <| V_ (opPickT rfl rfl) <| wlThen <| wcCondT rfl <| wcSeq <| wcRegion <| A_ rfl <| wlThen <| wcRet ?_
  exact r1_ hQ rfl rfl (endS hC hw (by simp only [leaderI, h6, cond_true, cond_false, Bool.not_true, Bool.not_false, Bool.or_true, Bool.true_or, Bool.or_false, Bool.false_or]))

theorem ready_ret (G0 : Gh) (w0 : World) (hw : Holds G0 w0) (bs ls : Nat) (vs : Value) (s : SlS) (hbs : HasO G0 bs (.cells [.int .i64 s.crew.faults, vs, .int .i64 s.low, .map (some ls)].toArray 56 (0, 0))) (hns : Sl G0 vs s.crew.nodes) (rx : SlotB) (x : SlotS) (hrx : HasL G0 rx.blocks) (hx : SlotO G0 rx x) (hsil : RowG G0 0 0 silence.cells) :
  RetS Tryz.prog 59 #[.pointer (some ⟨bs, 0, none⟩), .pointer (some ⟨rx.p, 0, none⟩)] G0 w0 (.bool ((readyI s.crew x))) := by
 have hC := Cx.refl hw
 have hB : Bxs G0 w0 w0.heap.size [] := Bxs.nil _ _ _
 obtain ⟨A1, cap2, rfl⟩ := hns.form
 have hF3 := hbs.row
 have hF4 := hx.row hrx
 have hM5 := hx.pre
 have hM6 := hx.com
 have hl7 := hrx.m1
 have hl8 := hrx.m2
 have hq9 := hx.qSl hrx
 obtain ⟨A10, cap11, e12⟩ := hq9.form
 rw [e12] at hq9 hF4
 refine callsOf Tryz.func59 rfl _ Tryz.ntmps59 rfl _ (argsCons (argsCons argsNil (t := 0) rfl) (t := 1) rfl) ?_; intro Q0 hQ
 refine wcSeq <| wcRegion <| A_ rfl ?_
 refine wlThen (wcSeq (wcSeq ?_))
 refine wcDrawS 6 [0, 1, 3, 7, 0, 31] fmix (by kernel_rfl) (by kernel_rfl) rfl hC hB ?_; intro w hC hB
 refine D_ 0 rfl rfl (fun _ => opMove rfl) <| D_ 1 rfl rfl (fun _ => opNilCheck rfl) <| D_ 2 rfl rfl (fun _ => (opFieldAddr rfl fo81_0)) <| E_ 3 rfl rfl (opLoadRow (cs := x.last.cells) rfl (RowG.range hC.holds (hF4.part (i := 0) (m := 33) (by simp [cl_]))) row78 (by simp [cl_])) <| E_ 4 rfl rfl (opLoadRow (cs := silence.cells) rfl (RowG.range hC.holds (hsil.part (i := 0) (m := 33) (by simp [cl_]))) row78 (by simp [cl_])) <| D_ 5 rfl rfl (fun _ => (opEqRow (eq78 _ x.last silence) eg78 rfl rfl)) <| wdDone (by kernel_rfl) <| wcOf ?_
 cases h13 : decide (x.last = silence)
 ·
  refine wcCondF rfl <| wcSkip <| wcOf <| wcSeq ?_
  refine wcDrawS 12 [0, 1, 3, 7, 0, 16, 48, 112, 240, 511, 1023, 2047] fmix (by kernel_rfl) (by kernel_rfl) rfl hC hB ?_; intro w hC hB
  refine D_ 0 rfl rfl (fun _ => opMove rfl) <| D_ 1 rfl rfl (fun _ => opNilCheck rfl) <| D_ 2 rfl rfl (fun _ => (opFieldAddr rfl fo56_0)) <| E_ 3 rfl rfl (opLoadRow (cs := [(.int .i64 s.crew.faults), (.slice A1 s.crew.nodes.length cap2)]) rfl (RowG.range hC.holds (hF3.part (i := 0) (m := 2) rfl)) row24 rfl) <| D_ 4 rfl rfl (fun _ => opMove rfl) <| D_ 5 rfl rfl (fun _ => opNilCheck rfl) <| D_ 6 rfl rfl (fun _ => (opFieldAddr rfl fo81_0)) <| D_ 7 rfl rfl (fun _ => (opFieldAddr rfl fo78_0)) <| E_ 8 rfl rfl (opLoadOne (v := (.int .i64 x.last.view)) rfl (RowG.cell hC.holds hF4 (j := 0) (by simp [cl_])) one3) ?_
  refine wdAll [9] (by kernel_rfl) rfl ⟨wd1 rfl ?_, trivial⟩
  intro hGd
  refine wlCallS hC hB rfl co85 rfl rfl (leader_ret _ _ hC.holds _ s.crew (Crew.mkIs (x := s.crew) hns) x.last.view) ?_; intro w hk hC hB
  refine wdNext hGd rfl (kpDrop rfl (kpDrop rfl kpNil)) (Tk.nil _) ?_
  refine D_ 10 rfl rfl (fun _ => opAssign rfl) <| D_ 11 rfl rfl (fun _ => opAssign rfl) <| wdDone (by kernel_rfl) <| wcOf ?_
  refine wcSeq (wcSeq (wcRegion ?_))
  refine M_ rfl <| V_ (opNilCheck rfl) <| V_ (opFieldAddr rfl fo81_2) <| V_ (opLoadOne (v := (.map (some rx.m1))) rfl (RowG.cell hC.holds hF4 (j := 66) (by simp [cl_])) one79) ?_
  refine wlRange hM5 (hl7.at_ hC.holds) hC hB rfl mk79 rfl ?_; intro r14 it15 w hC hB hI16
  refine wlThen <| wcBlock ?_
  refine WC.sub (wrInd (ι := Int × Nat × Obj × (List Int)) (fun i => match i with | (n, c, it, lf) => lf.length) (fun i G w => match i with | (n, c, it, lf) => Cx w0 G0 G w ⟨[], [(r14, it)]⟩ ∧ Bxs G w w0.heap.size [] ⟨[], [(r14, it)]⟩ ∧ Sl G (.slice A1 s.crew.nodes.length cap2) s.crew.nodes ∧ HasO G bs (.cells [(.int .i64 s.crew.faults), (.slice A1 s.crew.nodes.length cap2), (.int .i64 s.low), (.map (some ls))].toArray 56 (0, 0)) ∧ HasL G rx.blocks ∧ SlotO G rx x ∧ Sl G (.slice A10 x.q.length cap11) x.q ∧ MpO kI G rx.o1 x.pre ∧ MpO kI G rx.o2 x.com ∧ HasO G rx.m1 rx.o1 ∧ HasO G rx.m2 rx.o2 ∧ RowG G bs 0 [(.int .i64 s.crew.faults), (.slice A1 s.crew.nodes.length cap2), (.int .i64 s.low), (.map (some ls))] ∧ RowG G rx.p 0 ((.int .i64 x.last.view) :: (x.last.dig.cells ++ ((.int .i64 x.prep.view) :: (x.prep.dig.cells ++ ((.map (some rx.m1)) :: ((.map (some rx.m2)) :: ((.slice A10 x.q.length cap11) :: []))))))) ∧ RowG G 0 0 silence.cells ∧ ItO kI rx.o1 it rx.m1 lf ∧ n = IntKind.wrap .i64 ((c : Nat) : Int) ∧ c + cntK x (leaderI s.crew x.last.view) lf = cntK x (leaderI s.crew x.last.view) (x.pre.map (·.1))) (fun i => match i with | (n, c, it, lf) => (((((Env.nil.put 0 (.pointer (some ⟨bs, 0, none⟩))).put 1 (.pointer (some ⟨rx.p, 0, none⟩))).put 5 (.int .i64 n)).put 6 (.int .i64 (((leaderI s.crew x.last.view))))).put 29 (.pointer (some ⟨r14, 0, none⟩)))) ?_ (0, 0, it15, (List.map (fun x => x.1) x.pre)) _ _ ⟨hC, hB, hns, hbs, hrx, hx, hq9, hM5, hM6, hl7, hl8, hF3, hF4, hsil, hI16, rfl, (Nat.zero_add _)⟩) (fun _ ha => (((((ha.start.c ha 0 rfl).c ha 1 rfl).c ha 5 rfl).c ha 6 rfl).c ha 29 rfl))
  rintro ⟨n, c, it, lf⟩ G w N0 IH0 ⟨hC, hB, hns, hbs, hrx, hx, hq9, hM5, hM6, hl7, hl8, hF3, hF4, hsil, hIit, hn, hc⟩
  refine wcSeq <| wcRegion ?_
  rcases ItO.next (P := Tryz.prog) (ty := _) hM5 hIit (hC.heldAt 0 rfl) (hl7.at_ hC.holds) with ⟨hle17, hr18⟩ | ⟨la19, k20, lb21, v22, it23, w24, hle17, hw25, hr18, hI26, hc27⟩
  ·
   refine wlNext0 rfl hr18 rfl ?_
   refine V_ (opExtract rfl rfl) <| wlThen <| wcSeq <| wcCondF rfl <| wcExit <| wcOf <| wcSeq <| wcRegion <| M_ rfl <| M_ rfl <| V_ (opNilCheck rfl) <| V_ (opFieldAddr rfl fo56_0) <| V_ (opFieldAddr rfl fo24_0) <| V_ (opLoadOne (v := (.int .i64 s.crew.faults)) rfl (RowG.cell hC.holds hF3 (j := 0) rfl) one3) <| V_ (opMul rfl rfl) <| V_ (opGeq rfl rfl) <| A_ rfl <| wlThen <| wcRet ?_
   exact r1_ hQ rfl rfl (endS hC hw (congrArg Value.bool (ready_fin h13 hn hc hle17)))
  ·
   refine wlNext1 hC hB (i := 0) rfl rfl hw25 hr18 rfl ?_; intro w hC hB
   refine V_ (opExtract rfl rfl) <| wlThen <| wcSeq <| wcCondT rfl <| wcSkip <| wcOf ?_
   refine wcBlock (wcSeq (wcRegion ?_))
   obtain ⟨v28, y29, hy30, hv31, hr32⟩ := hc27.entry (keyL_int ui3).inj hM5
   obtain rfl := isWd hv31
   refine V_ (opEntryH rfl (hr32 _ _ (hC.heldAt 0 rfl) (hl7.at_ hC.holds))) <| V_ (opExtract rfl rfl) <| V_ (opExtract rfl rfl) ?_
   refine wlAlloc hC hB zero78 rfl ?_; intro b33 w hk hC hB
   refine A_ rfl ?_
   refine wlStore 0 (vs := y29.cells) (cs := ((.int .i64 0) :: (Dig.zero.cells ++ []))) (cs' := y29.cells) hC hB rfl rfl rfl sz78 rfl (by simp [cl_]) (by simp [cl_, Value.oneCell']) (by simp [cl_]) (by simp [cl_]) rfl ?_; intro w hC hB
   refine wlThen <| wcSeq ?_
   refine wcDrawS 11 [0, 0, 2, 6, 14, 31, 63, 127, 127, 511, 1023] fmix (by kernel_rfl) (by kernel_rfl) rfl hC hB ?_; intro w hC hB
   refine E_ 0 rfl rfl (opLoadRow (cs := y29.cells) rfl (hB.range (i := 0) (m := 33) rfl (by simp [cl_])) row78 (by simp [cl_])) <| D_ 1 rfl rfl (fun _ => opMove rfl) <| D_ 2 rfl rfl (fun _ => opNilCheck rfl) <| D_ 3 rfl rfl (fun _ => (opFieldAddr rfl fo81_0)) <| E_ 4 rfl rfl (opLoadRow (cs := x.last.cells) rfl (RowG.range hC.holds (hF4.part (i := 0) (m := 33) (by simp [cl_]))) row78 (by simp [cl_])) <| D_ 5 rfl rfl (fun _ => (opEqRow (eq78 _ y29 x.last) eg78 rfl rfl)) <| D_ 6 rfl rfl (fun _ => opMove rfl) ?_
   cases h34 : decide (y29 = x.last)
   ·
    refine O_ 7 rfl rfl rfl rfl rfl <| O_ 8 rfl rfl rfl rfl rfl <| O_ 9 rfl rfl rfl rfl rfl <| D_ 10 rfl rfl (fun _ => opPickF rfl rfl) <| wdDone (by kernel_rfl) <| wcOf <| wcCondF rfl <| wcSkip <| wrOf ?_
    exact (IH0 (n, c, it23, (la19 ++ lb21)) _ _ ⟨hC, hB.tail, hns, hbs, hrx, hx, hq9, hM5, hM6, hl7, hl8, hF3, hF4, hsil, hI26, hn, (cntK_step (p := false) (q := false) (by rw [← hle17]; exact hc) hy30 h34 (fun h_ => nomatch h_))⟩ (by rw [hle17]; simp)).sub (fun _ ha => (((((ha.start.c ha 0 rfl).c ha 1 rfl).c ha 5 rfl).c ha 6 rfl).c ha 29 rfl))
   ·
    refine DG_ 7 rfl rfl rfl rfl (fun _ => opMove rfl) <| DG_ 8 rfl rfl rfl rfl (fun _ => opMove rfl) <| DG_ 9 rfl rfl rfl rfl (fun _ => opNeq rfl rfl) <| D_ 10 rfl rfl (fun _ => opPickT rfl rfl) <| wdDone (by kernel_rfl) <| wcOf ?_
    cases h35 : k20 != (((leaderI s.crew x.last.view)))
    ·
     refine wcCondF rfl <| wcSkip <| wrOf ?_
     exact (IH0 (n, c, it23, (la19 ++ lb21)) _ _ ⟨hC, hB.tail, hns, hbs, hrx, hx, hq9, hM5, hM6, hl7, hl8, hF3, hF4, hsil, hI26, hn, (cntK_step (p := true) (q := false) (by rw [← hle17]; exact hc) hy30 h34 (fun _ => h35))⟩ (by rw [hle17]; simp)).sub (fun _ ha => (((((ha.start.c ha 0 rfl).c ha 1 rfl).c ha 5 rfl).c ha 6 rfl).c ha 29 rfl))
    ·
     refine wcCondT rfl <| wcRegion <| M_ rfl <| V_ (opAdd rfl rfl) <| A_ rfl <| wlNil <| wrOf ?_
     exact (IH0 (IntKind.wrap .i64 (n + 1), (c + 1), it23, (la19 ++ lb21)) _ _ ⟨hC, hB.tail, hns, hbs, hrx, hx, hq9, hM5, hM6, hl7, hl8, hF3, hF4, hsil, hI26, (by rw [hn]; exact wrap_inc c), (cntK_step (p := true) (q := true) (by rw [← hle17]; exact hc) hy30 h34 (fun _ => h35))⟩ (by rw [hle17]; simp)).sub (fun _ ha => (((((ha.start.c ha 0 rfl).c ha 1 rfl).c ha 5 rfl).c ha 6 rfl).c ha 29 rfl))
 ·
  refine wcCondT rfl <| wcSeq <| wcRegion <| A_ rfl <| wlThen <| wcRet ?_
  exact r1_ hQ rfl rfl (endS hC hw (by simp only [readyI, h13, cond_true]))

theorem none_ret (G0 : Gh) (w0 : World) (hw : Holds G0 w0) (bs ls : Nat) (vs : Value) (s : SlS) (hbs : HasO G0 bs (.cells [.int .i64 s.crew.faults, vs, .int .i64 s.low, .map (some ls)].toArray 56 (0, 0))) (hns : Sl G0 vs s.crew.nodes) :
  RetS Tryz.prog 48 #[.pointer (some ⟨bs, 0, none⟩)] G0 w0 (.bool false) := by
 have hC := Cx.refl hw
 have hB : Bxs G0 w0 w0.heap.size [] := Bxs.nil _ _ _
 obtain ⟨A1, cap2, rfl⟩ := hns.form
 have hF3 := hbs.row
 refine callsOf Tryz.func48 rfl _ Tryz.ntmps48 rfl _ (argsCons argsNil (t := 0) rfl) ?_; intro Q0 hQ
 refine wcSeq <| wcRegion <| A_ rfl ?_
 refine wlThen (wcSeq (wcRegion ?_))
 refine M_ rfl <| V_ (OpVal.cast (v' := .bool false) (opPtrNil ip26 rfl rfl) rfl) <| M_ rfl <| wlOn rfl rfl <| M_ rfl <| wlOn rfl rfl <| V_ (opNilCheck rfl) <| wlOn rfl rfl <| V_ (opFieldAddr rfl fo56_2) <| wlOn rfl rfl <| V_ (opLoadOne (v := (.map (some ls))) rfl (RowG.cell hC.holds hF3 (j := 3) rfl) one54) <| wlOn rfl rfl <| V_ (opMapNil mk54 rfl rfl) <| V_ (opPickF rfl rfl) <| A_ rfl <| wlThen <| wcRet ?_
 exact r1_ hQ rfl rfl (endS hC hw rfl)

theorem low_ret (G0 : Gh) (w0 : World) (hw : Holds G0 w0) (bs ls : Nat) (vs : Value) (s : SlS) (hbs : HasO G0 bs (.cells [.int .i64 s.crew.faults, vs, .int .i64 s.low, .map (some ls)].toArray 56 (0, 0))) (hns : Sl G0 vs s.crew.nodes) :
  RetS Tryz.prog 11 #[.pointer (some ⟨bs, 0, none⟩)] G0 w0 (.int .i64 s.low) := by
 have hC := Cx.refl hw
 have hB : Bxs G0 w0 w0.heap.size [] := Bxs.nil _ _ _
 obtain ⟨A1, cap2, rfl⟩ := hns.form
 have hF3 := hbs.row
 refine callsOf Tryz.func11 rfl _ Tryz.ntmps11 rfl _ (argsCons argsNil (t := 0) rfl) ?_; intro Q0 hQ
 refine wcSeq <| wcRegion <| A_ rfl ?_
 refine wlThen (wcSeq (wcSeq (wcRegion ?_)))
 refine M_ rfl ?_
 refine wlCallS hC hB rfl co48 rfl rfl (none_ret _ _ hC.holds bs ls _ s hbs hns) ?_; intro w hk hC hB
 refine wlThen <| wcCondF rfl <| wcSkip <| wcOf <| wcSeq <| wcRegion <| M_ rfl <| V_ (opNilCheck rfl) <| V_ (opFieldAddr rfl fo56_1) <| V_ (opLoadOne (v := (.int .i64 s.low)) rfl (RowG.cell hC.holds hF3 (j := 2) rfl) one3) <| A_ rfl <| wlThen <| wcRet ?_
 exact r1_ hQ rfl rfl (endS hC hw rfl)

theorem slotAt_ret (G0 : Gh) (w0 : World) (hw : Holds G0 w0) (bs : Nat) (Os : List (Nat × Obj)) (s : SlS) (hOs : HasL G0 Os) (hs : SlO G0 bs Os s) (k : Int) :
  RetG Tryz.prog 47 #[.pointer (some ⟨bs, 0, none⟩), .int .i64 k] G0 w0 (fun G v => SlotRes G s.f k v) := by
 have hC := Cx.refl hw
 have hB : Bxs G0 w0 w0.heap.size [] := Bxs.nil _ _ _
 obtain ⟨v1, l2, om3, D4, H5, e6, hn7, hM8, hH9⟩ := id hs
 obtain ⟨A14, cap15, rfl⟩ := hn7.form
 have hb10 : HasO G0 bs (.cells [(.int .i64 s.crew.faults), (.slice A14 s.crew.nodes.length cap15), (.int .i64 s.low), (.map (some l2))].toArray 56 (0, 0)) := hOs (bs, (.cells [(.int .i64 s.crew.faults), (.slice A14 s.crew.nodes.length cap15), (.int .i64 s.low), (.map (some l2))].toArray 56 (0, 0))) (by rw [e6]; simp)
 have hl11 : HasO G0 l2 om3 := hOs (l2, om3) (by rw [e6]; simp)
 have hL12 : HasL G0 H5 := fun x hx => hOs x (by rw [e6]; simp [hx])
 have hF13 := hb10.row
 refine callsOf Tryz.func47 rfl _ Tryz.ntmps47 rfl _ (argsCons (argsCons argsNil (t := 0) rfl) (t := 1) rfl) ?_; intro Q0 hQ
 refine wcSeq <| wcRegion <| A_ rfl ?_
 refine wlThen (wcSeq (wcSeq (wcRegion ?_)))
 refine M_ rfl ?_
 refine wlCallS hC hB rfl co48 rfl rfl (none_ret _ _ hC.holds bs l2 _ s hb10 hn7) ?_; intro w hk hC hB
 refine wlThen <| wcCondF rfl <| wcSkip <| wcOf <| wcSeq <| wcRegion <| M_ rfl <| V_ (opNilCheck rfl) <| V_ (opFieldAddr rfl fo56_2) <| V_ (opLoadOne (v := (.map (some l2))) rfl (RowG.cell hC.holds hF13 (j := 3) rfl) one54) <| M_ rfl ?_
 obtain ⟨v16, hv17, hr18⟩ := hM8.lookup (keyL_int ui3) mk54 zv75 (isPt' _ (Pt.mk none)) k
 obtain rfl := isPt hv17
 refine V_ (opLookupH rfl rfl (hr18 _ _ (hl11.at_ hC.holds))) <| A_ rfl <| wlThen <| wcRet ?_
 exact r1_ hQ rfl rfl (endG hC (hH9.res hL12))

theorem prepared_ret (G0 : Gh) (w0 : World) (hw : Holds G0 w0) (bs : Nat) (Os : List (Nat × Obj)) (s : SlS) (hOs : HasL G0 Os) (hs : SlO G0 bs Os s) (k : Int) (hsil : RowG G0 0 0 silence.cells) :
  RetS Tryz.prog 16 #[.pointer (some ⟨bs, 0, none⟩), .int .i64 k] G0 w0 (.bool ((preparedI s k))) := by
 have hC := Cx.refl hw
 have hB : Bxs G0 w0 w0.heap.size [] := Bxs.nil _ _ _
 obtain ⟨v1, l2, om3, D4, H5, e6, hn7, hM8, hH9⟩ := id hs
 obtain ⟨A14, cap15, rfl⟩ := hn7.form
 have hb10 : HasO G0 bs (.cells [(.int .i64 s.crew.faults), (.slice A14 s.crew.nodes.length cap15), (.int .i64 s.low), (.map (some l2))].toArray 56 (0, 0)) := hOs (bs, (.cells [(.int .i64 s.crew.faults), (.slice A14 s.crew.nodes.length cap15), (.int .i64 s.low), (.map (some l2))].toArray 56 (0, 0))) (by rw [e6]; simp)
 have hl11 : HasO G0 l2 om3 := hOs (l2, om3) (by rw [e6]; simp)
 have hL12 : HasL G0 H5 := fun x hx => hOs x (by rw [e6]; simp [hx])
 have hF13 := hb10.row
 refine callsOf Tryz.func16 rfl _ Tryz.ntmps16 rfl _ (argsCons (argsCons argsNil (t := 0) rfl) (t := 1) rfl) ?_; intro Q0 hQ
 refine wcSeq <| wcRegion <| A_ rfl ?_
 refine wlThen (wcSeq (wcRegion ?_))
 refine M_ rfl <| M_ rfl ?_
 refine wlCallG hC hB rfl co47 rfl rfl (slotAt_ret _ _ hC.holds bs Os s hOs hs k) ?_; rintro v16 G w hk hC hB (⟨hf17, rfl⟩ | ⟨r18, t19, hf17, rfl, hr20, hx21⟩)
 ·
  replace hn7 := hn7.mono hk.gle; replace hb10 := hb10.mono hk.gle
  replace hsil := hsil.mono hk.gle
  refine A_ rfl ?_
  refine wlThen (wcSeq (wcRegion ?_))
  refine M_ rfl <| V_ (OpVal.cast (v' := .bool false) (opPtrNe ip75 rfl rfl) rfl) <| M_ rfl <| wlOff rfl rfl rfl rfl <| wlOff rfl rfl rfl rfl <| wlOff rfl rfl rfl rfl <| V_ (opPickF rfl rfl) <| A_ rfl <| wlThen <| wcRet ?_
  exact r1_ hQ rfl rfl (endS hC hw (by simp only [preparedI, hf17]))
 ·
  replace hn7 := hn7.mono hk.gle; replace hb10 := hb10.mono hk.gle
  replace hsil := hsil.mono hk.gle
  have hF22 := hx21.row hr20
  have hM23 := hx21.pre
  have hM24 := hx21.com
  have hl25 := hr20.m1
  have hl26 := hr20.m2
  have hq27 := hx21.qSl hr20
  obtain ⟨A28, cap29, e30⟩ := hq27.form
  rw [e30] at hq27 hF22
  refine A_ rfl ?_
  refine wlThen (wcSeq (wcRegion ?_))
  refine M_ rfl <| V_ (OpVal.cast (v' := .bool true) (opPtrNe ip75 rfl rfl) rfl) <| M_ rfl <| wlOn rfl rfl <| M_ rfl <| wlOn rfl rfl <| M_ rfl <| wlOn rfl rfl ?_
  refine wlCallS hC hB rfl co59 rfl rfl (ready_ret _ _ hC.holds bs l2 _ s hb10 hn7 r18 t19 hr20 hx21 hsil) ?_; intro w hk hC hB
  refine V_ (opPickT rfl rfl) <| A_ rfl <| wlThen <| wcRet ?_
  exact r1_ hQ rfl rfl (endS hC hw (by simp only [preparedI, hf17]))

theorem at_ret (G0 : Gh) (w0 : World) (hw : Holds G0 w0) (bs : Nat) (Os : List (Nat × Obj)) (s : SlS) (hOs : HasL G0 Os) (hs : SlO G0 bs Os s) (k : Int) (hsil : RowG G0 0 0 silence.cells) :
  RetS Tryz.prog 10 #[.pointer (some ⟨bs, 0, none⟩), .int .i64 k] G0 w0 (.tuple #[(.agg ((atI s k).1).cells.toArray), (.bool ((atI s k).2))]) := by
 have hC := Cx.refl hw
 have hB : Bxs G0 w0 w0.heap.size [] := Bxs.nil _ _ _
 obtain ⟨v1, l2, om3, D4, H5, e6, hn7, hM8, hH9⟩ := id hs
 obtain ⟨A14, cap15, rfl⟩ := hn7.form
 have hb10 : HasO G0 bs (.cells [(.int .i64 s.crew.faults), (.slice A14 s.crew.nodes.length cap15), (.int .i64 s.low), (.map (some l2))].toArray 56 (0, 0)) := hOs (bs, (.cells [(.int .i64 s.crew.faults), (.slice A14 s.crew.nodes.length cap15), (.int .i64 s.low), (.map (some l2))].toArray 56 (0, 0))) (by rw [e6]; simp)
 have hl11 : HasO G0 l2 om3 := hOs (l2, om3) (by rw [e6]; simp)
 have hL12 : HasL G0 H5 := fun x hx => hOs x (by rw [e6]; simp [hx])
 have hF13 := hb10.row
 refine callsOf Tryz.func10 rfl _ Tryz.ntmps10 rfl _ (argsCons (argsCons argsNil (t := 0) rfl) (t := 1) rfl) ?_; intro Q0 hQ
 refine wcSeq <| wcRegion ?_
 refine wlAlloc hC hB zero44 rfl ?_; intro b16 w hk hC hB
 refine A_ rfl ?_
 refine wlThen (wcSeq (wcRegion ?_))
 refine M_ rfl <| M_ rfl ?_
 refine wlCallG hC hB rfl co47 rfl rfl (slotAt_ret _ _ hC.holds bs Os s hOs hs k) ?_; rintro v17 G w hk hC hB (⟨hf18, rfl⟩ | ⟨r19, t20, hf18, rfl, hr21, hx22⟩)
 ·
  replace hsil := hsil.mono hk.gle
  refine A_ rfl ?_
  refine wlThen (wcSeq (wcSeq ?_))
  refine wcDrawS 10 [0, 1, 3, 7, 15, 31, 63, 7, 255, 511] fmix (by kernel_rfl) (by kernel_rfl) rfl hC hB ?_; intro w hC hB
  refine D_ 0 rfl rfl (fun _ => opMove rfl) <| D_ 1 rfl rfl (fun _ => (OpVal.cast (v' := .bool true) (opPtrNil ip75 rfl rfl) rfl)) <| D_ 2 rfl rfl (fun _ => opMove rfl) <| O_ 3 rfl rfl rfl rfl rfl <| O_ 4 rfl rfl rfl rfl rfl <| O_ 5 rfl rfl rfl rfl rfl <| O_ 6 rfl rfl rfl rfl rfl <| O_ 7 rfl rfl rfl rfl rfl <| O_ 8 rfl rfl rfl rfl rfl <| D_ 9 rfl rfl (fun _ => opPickT rfl rfl) <| wdDone (by kernel_rfl) <| wcOf <| wcCondT rfl <| wcSeq <| wcRegion <| V_ (B_ (ps := []) (cs := ((.int .i64 0) :: (Dig.zero.cells ++ ((.int .i64 0) :: [])))) so44 zero44 rfl rfl) ?_
  refine wlStore 0 (vs := ((.int .i64 0) :: (Dig.zero.cells ++ ((.int .i64 0) :: [])))) (cs := ((.int .i64 0) :: (Dig.zero.cells ++ ((.int .i64 0) :: [])))) (cs' := ((.int .i64 0) :: (Dig.zero.cells ++ ((.int .i64 0) :: [])))) hC hB rfl rfl rfl sz44 rfl (by simp [cl_]) (by simp [cl_, Value.oneCell']) (by simp [cl_]) (by simp [cl_]) rfl ?_; intro w hC hB
  refine A_ rfl <| wlThen <| wcRet ?_
  exact fun ac_ ha => hQ _ _ _ (results2 ha rfl ⟨_, _, ((.int .i64 0) :: (Dig.zero.cells ++ ((.int .i64 0) :: []))), rfl, row44, (by simp [cl_]), hB.range (i := 0) (m := 34) rfl (by simp [cl_]), rfl⟩ rfl) ha.df (endS hC hw (by simp only [atI, hf18, cond_true, cond_false, Bool.not_true, Bool.not_false, Stand.cells]))
 ·
  replace hsil := hsil.mono hk.gle
  have hF23 := hx22.row hr21
  have hM24 := hx22.pre
  have hM25 := hx22.com
  have hl26 := hr21.m1
  have hl27 := hr21.m2
  have hq28 := hx22.qSl hr21
  obtain ⟨A29, cap30, e31⟩ := hq28.form
  rw [e31] at hq28 hF23
  refine A_ rfl ?_
  refine wlThen (wcSeq (wcSeq ?_))
  refine wcDrawS 10 [0, 1, 3, 7, 15, 31, 63, 7, 255, 511] fmix (by kernel_rfl) (by kernel_rfl) rfl hC hB ?_; intro w hC hB
  refine D_ 0 rfl rfl (fun _ => opMove rfl) <| D_ 1 rfl rfl (fun _ => (OpVal.cast (v' := .bool false) (opPtrNil ip75 rfl rfl) rfl)) <| D_ 2 rfl rfl (fun _ => opMove rfl) <| DG_ 3 rfl rfl rfl rfl (fun _ => opMove rfl) <| DG_ 4 rfl rfl rfl rfl (fun _ => opNilCheck rfl) <| DG_ 5 rfl rfl rfl rfl (fun _ => (opFieldAddr rfl fo81_0)) <| EG_ 6 rfl rfl rfl rfl (opLoadRow (cs := t20.last.cells) rfl (RowG.range hC.holds (hF23.part (i := 0) (m := 33) (by simp [cl_]))) row78 (by simp [cl_])) <| EG_ 7 rfl rfl rfl rfl (opLoadRow (cs := silence.cells) rfl (RowG.range hC.holds (hsil.part (i := 0) (m := 33) (by simp [cl_]))) row78 (by simp [cl_])) <| DG_ 8 rfl rfl rfl rfl (fun _ => (opEqRow (eq78 _ t20.last silence) eg78 rfl rfl)) <| D_ 9 rfl rfl (fun _ => opPickF rfl rfl) <| wdDone (by kernel_rfl) <| wcOf ?_
  cases h32 : decide (t20.last = silence)
  ·
   refine wcCondF rfl <| wcSkip <| wcOf <| wcSeq ?_
   refine wcDrawS 14 [0, 0, 2, 6, 14, 30, 0, 64, 192, 448, 960, 2047, 4095, 8191] fmix (by kernel_rfl) (by kernel_rfl) rfl hC hB ?_; intro w hC hB
   refine D_ 0 rfl rfl (fun _ => opMove rfl) <| D_ 1 rfl rfl (fun _ => opMove rfl) <| D_ 2 rfl rfl (fun _ => opNilCheck rfl) <| D_ 3 rfl rfl (fun _ => (opFieldAddr rfl fo81_0)) <| D_ 4 rfl rfl (fun _ => (opFieldAddr rfl fo78_1)) <| E_ 5 rfl rfl (opLoadRow (cs := t20.last.dig.cells) rfl (RowG.range hC.holds (hF23.part (i := 1) (m := 32) (by simp [cl_]))) row37 (by simp [cl_])) <| D_ 6 rfl rfl (fun _ => opMove rfl) <| D_ 7 rfl rfl (fun _ => opNilCheck rfl) <| D_ 8 rfl rfl (fun _ => (opFieldAddr rfl fo81_0)) <| D_ 9 rfl rfl (fun _ => (opFieldAddr rfl fo78_0)) <| E_ 10 rfl rfl (opLoadOne (v := (.int .i64 t20.last.view)) rfl (RowG.cell hC.holds hF23 (j := 0) (by simp [cl_])) one3) <| D_ 11 rfl rfl (fun _ => (B_ (ps := [(0, .tmp 21), (1, .tmp 26), (2, .tmp 31)]) (cs := ((.int .i64 k) :: (t20.last.dig.cells ++ ((.int .i64 t20.last.view) :: [])))) so44 zero44 rfl rfl)) ?_
   refine wdAll [12] (by kernel_rfl) rfl ⟨wd1 rfl ?_, trivial⟩
   intro hGd
   refine wlStore 0 (vs := ((.int .i64 k) :: (t20.last.dig.cells ++ ((.int .i64 t20.last.view) :: [])))) (cs := ((.int .i64 0) :: (Dig.zero.cells ++ ((.int .i64 0) :: [])))) (cs' := ((.int .i64 k) :: (t20.last.dig.cells ++ ((.int .i64 t20.last.view) :: [])))) hC hB rfl rfl rfl sz44 rfl (by simp [cl_]) (by simp [cl_, Value.oneCell']) (by simp [cl_]) (by simp [cl_]) rfl ?_; intro w hC hB
   refine wdNext hGd rfl (kpDrop rfl (kpDrop rfl kpNil)) (Tk.nil _) ?_
   refine D_ 13 rfl rfl (fun _ => opAssign rfl) <| wdDone (by kernel_rfl) <| wcOf <| wcRet ?_
   exact fun ac_ ha => hQ _ _ _ (results2 ha rfl ⟨_, _, ((.int .i64 k) :: (t20.last.dig.cells ++ ((.int .i64 t20.last.view) :: []))), rfl, row44, (by simp [cl_]), hB.range (i := 0) (m := 34) rfl (by simp [cl_]), rfl⟩ rfl) ha.df (endS hC hw (by simp only [atI, hf18, h32, cond_true, cond_false, Bool.not_true, Bool.not_false, Stand.cells]))
  ·
   refine wcCondT rfl <| wcSeq <| wcRegion <| V_ (B_ (ps := []) (cs := ((.int .i64 0) :: (Dig.zero.cells ++ ((.int .i64 0) :: [])))) so44 zero44 rfl rfl) ?_
   refine wlStore 0 (vs := ((.int .i64 0) :: (Dig.zero.cells ++ ((.int .i64 0) :: [])))) (cs := ((.int .i64 0) :: (Dig.zero.cells ++ ((.int .i64 0) :: [])))) (cs' := ((.int .i64 0) :: (Dig.zero.cells ++ ((.int .i64 0) :: [])))) hC hB rfl rfl rfl sz44 rfl (by simp [cl_]) (by simp [cl_, Value.oneCell']) (by simp [cl_]) (by simp [cl_]) rfl ?_; intro w hC hB
   refine A_ rfl <| wlThen <| wcRet ?_
   exact fun ac_ ha => hQ _ _ _ (results2 ha rfl ⟨_, _, ((.int .i64 0) :: (Dig.zero.cells ++ ((.int .i64 0) :: []))), rfl, row44, (by simp [cl_]), hB.range (i := 0) (m := 34) rfl (by simp [cl_]), rfl⟩ rfl) ha.df (endS hC hw (by simp only [atI, hf18, h32, cond_true, cond_false, Bool.not_true, Bool.not_false, Stand.cells]))

theorem committed_ret (G0 : Gh) (w0 : World) (hw : Holds G0 w0) (bs : Nat) (Os : List (Nat × Obj)) (s : SlS) (hOs : HasL G0 Os) (hs : SlO G0 bs Os s) (k : Int) (hsil : RowG G0 0 0 silence.cells) :
  RetS Tryz.prog 17 #[.pointer (some ⟨bs, 0, none⟩), .int .i64 k] G0 w0 (.bool ((committedI s k))) := by
 have hC := Cx.refl hw
 have hB : Bxs G0 w0 w0.heap.size [] := Bxs.nil _ _ _
 obtain ⟨v1, l2, om3, D4, H5, e6, hn7, hM8, hH9⟩ := id hs
 obtain ⟨A14, cap15, rfl⟩ := hn7.form
 have hb10 : HasO G0 bs (.cells [(.int .i64 s.crew.faults), (.slice A14 s.crew.nodes.length cap15), (.int .i64 s.low), (.map (some l2))].toArray 56 (0, 0)) := hOs (bs, (.cells [(.int .i64 s.crew.faults), (.slice A14 s.crew.nodes.length cap15), (.int .i64 s.low), (.map (some l2))].toArray 56 (0, 0))) (by rw [e6]; simp)
 have hl11 : HasO G0 l2 om3 := hOs (l2, om3) (by rw [e6]; simp)
 have hL12 : HasL G0 H5 := fun x hx => hOs x (by rw [e6]; simp [hx])
 have hF13 := hb10.row
 refine callsOf Tryz.func17 rfl _ Tryz.ntmps17 rfl _ (argsCons (argsCons argsNil (t := 0) rfl) (t := 1) rfl) ?_; intro Q0 hQ
 refine wcSeq <| wcRegion <| A_ rfl ?_
 refine wlThen (wcSeq (wcRegion ?_))
 refine M_ rfl <| M_ rfl ?_
 refine wlCallG hC hB rfl co47 rfl rfl (slotAt_ret _ _ hC.holds bs Os s hOs hs k) ?_; rintro v16 G w hk hC hB (⟨hf17, rfl⟩ | ⟨r18, t19, hf17, rfl, hr20, hx21⟩)
 ·
  replace hn7 := hn7.mono hk.gle; replace hOs := hOs.mono hk.gle; replace hs := hs.mono hk.gle; replace hM8 := hM8.mono hk.gle; replace hH9 := hH9.mono hk.gle; replace hb10 := hb10.mono hk.gle; replace hl11 := hl11.mono hk.gle; replace hL12 := hL12.mono hk.gle
  replace hF13 := hF13.mono hk.gle
  replace hsil := hsil.mono hk.gle
  refine A_ rfl ?_
  refine wlThen (wcSeq (wcSeq (wcRegion ?_)))
  refine M_ rfl <| V_ (OpVal.cast (v' := .bool true) (opPtrNil ip75 rfl rfl) rfl) <| M_ rfl <| wlOff rfl rfl rfl rfl <| wlOff rfl rfl rfl rfl <| wlOff rfl rfl rfl rfl <| wlOff rfl rfl rfl rfl <| V_ (opPickT rfl rfl) <| wlThen <| wcCondT rfl <| wcSeq <| wcRegion <| A_ rfl <| wlThen <| wcRet ?_
  exact r1_ hQ rfl rfl (endS hC hw (by simp only [committedI, hf17, cond_true, cond_false, Bool.not_true, Bool.not_false]))
 ·
  replace hn7 := hn7.mono hk.gle; replace hOs := hOs.mono hk.gle; replace hs := hs.mono hk.gle; replace hM8 := hM8.mono hk.gle; replace hH9 := hH9.mono hk.gle; replace hb10 := hb10.mono hk.gle; replace hl11 := hl11.mono hk.gle; replace hL12 := hL12.mono hk.gle
  replace hF13 := hF13.mono hk.gle
  replace hsil := hsil.mono hk.gle
  have hF22 := hx21.row hr20
  have hM23 := hx21.pre
  have hM24 := hx21.com
  have hl25 := hr20.m1
  have hl26 := hr20.m2
  have hq27 := hx21.qSl hr20
  obtain ⟨A28, cap29, e30⟩ := hq27.form
  rw [e30] at hq27 hF22
  refine A_ rfl ?_
  refine wlThen (wcSeq (wcSeq (wcRegion ?_)))
  refine M_ rfl <| V_ (OpVal.cast (v' := .bool false) (opPtrNil ip75 rfl rfl) rfl) <| M_ rfl <| wlOn rfl rfl <| M_ rfl <| wlOn rfl rfl <| M_ rfl <| wlOn rfl rfl ?_
  refine wlCallS hC hB rfl co59 rfl rfl (ready_ret _ _ hC.holds bs l2 _ s hb10 hn7 r18 t19 hr20 hx21 hsil) ?_; intro w hk hC hB
  refine wlOn rfl rfl <| V_ (opNot rfl) <| V_ (opPickF rfl rfl) <| wlThen ?_
  cases h31 : ((readyI s.crew t19))
  ·
   refine wcCondT rfl <| wcSeq <| wcRegion <| A_ rfl <| wlThen <| wcRet ?_
   exact r1_ hQ rfl rfl (endS hC hw (by simp only [committedI, hf17, h31, cond_true, cond_false, Bool.not_true, Bool.not_false]))
  ·
   refine wcCondF rfl <| wcSkip <| wcOf <| wcSeq <| wcRegion <| A_ rfl ?_
   refine wlThen (wcSeq (wcSeq (wcRegion ?_)))
   refine M_ rfl <| V_ (opNilCheck rfl) <| V_ (opFieldAddr rfl fo81_3) <| V_ (opLoadOne (v := (.map (some r18.m2))) rfl (RowG.cell hC.holds hF22 (j := 67) (by simp [cl_])) one79) ?_
   refine wlRange hM24 (hl26.at_ hC.holds) hC hB rfl mk79 rfl ?_; intro r32 it33 w hC hB hI34
   refine wlThen <| wcBlock ?_
   refine WC.sub (wrInd (ι := Int × Nat × Obj × (List Int)) (fun i => match i with | (n, c, it, lf) => lf.length) (fun i G w => match i with | (n, c, it, lf) => Cx w0 G0 G w ⟨[], [(r32, it)]⟩ ∧ Bxs G w w0.heap.size [] ⟨[], [(r32, it)]⟩ ∧ Sl G (.slice A14 s.crew.nodes.length cap15) s.crew.nodes ∧ HasL G Os ∧ SlO G bs Os s ∧ MpO kI G om3 D4 ∧ SlH G D4 H5 s.f ∧ HasO G bs (.cells [(.int .i64 s.crew.faults), (.slice A14 s.crew.nodes.length cap15), (.int .i64 s.low), (.map (some l2))].toArray 56 (0, 0)) ∧ HasO G l2 om3 ∧ HasL G H5 ∧ HasL G r18.blocks ∧ SlotO G r18 t19 ∧ Sl G (.slice A28 t19.q.length cap29) t19.q ∧ MpO kI G r18.o1 t19.pre ∧ MpO kI G r18.o2 t19.com ∧ HasO G r18.m1 r18.o1 ∧ HasO G r18.m2 r18.o2 ∧ RowG G bs 0 [(.int .i64 s.crew.faults), (.slice A14 s.crew.nodes.length cap15), (.int .i64 s.low), (.map (some l2))] ∧ RowG G 0 0 silence.cells ∧ RowG G r18.p 0 ((.int .i64 t19.last.view) :: (t19.last.dig.cells ++ ((.int .i64 t19.prep.view) :: (t19.prep.dig.cells ++ ((.map (some r18.m1)) :: ((.map (some r18.m2)) :: ((.slice A28 t19.q.length cap29) :: []))))))) ∧ ItO kI r18.o2 it r18.m2 lf ∧ n = IntKind.wrap .i64 ((c : Nat) : Int) ∧ c + cntC t19 lf = cntC t19 (t19.com.map (·.1))) (fun i => match i with | (n, c, it, lf) => ((((Env.nil.put 0 (.pointer (some ⟨bs, 0, none⟩))).put 5 (.pointer (some ⟨r18.p, 0, none⟩))).put 6 (.int .i64 n)).put 24 (.pointer (some ⟨r32, 0, none⟩)))) ?_ (0, 0, it33, (List.map (fun x => x.1) t19.com)) _ _ ⟨hC, hB, hn7, hOs, hs, hM8, hH9, hb10, hl11, hL12, hr20, hx21, hq27, hM23, hM24, hl25, hl26, hF13, hsil, hF22, hI34, rfl, (Nat.zero_add _)⟩) (fun _ ha => ((((ha.start.c ha 0 rfl).c ha 5 rfl).c ha 6 rfl).c ha 24 rfl))
   rintro ⟨n, c, it, lf⟩ G w N0 IH0 ⟨hC, hB, hn7, hOs, hs, hM8, hH9, hb10, hl11, hL12, hr20, hx21, hq27, hM23, hM24, hl25, hl26, hF13, hsil, hF22, hIit, hn, hc⟩
   refine wcSeq <| wcRegion ?_
   rcases ItO.next (P := Tryz.prog) (ty := _) hM24 hIit (hC.heldAt 0 rfl) (hl26.at_ hC.holds) with ⟨hle35, hr36⟩ | ⟨la37, k38, lb39, v40, it41, w42, hle35, hw43, hr36, hI44, hc45⟩
   ·
    refine wlNext0 rfl hr36 rfl ?_
    refine V_ (opExtract rfl rfl) <| wlThen <| wcSeq <| wcCondF rfl <| wcExit <| wcOf <| wcSeq <| wcRegion <| M_ rfl <| M_ rfl <| V_ (opNilCheck rfl) <| V_ (opFieldAddr rfl fo56_0) <| V_ (opLoadRow (cs := [(.int .i64 s.crew.faults), (.slice A14 s.crew.nodes.length cap15)]) rfl (RowG.range hC.holds (hF13.part (i := 0) (m := 2) rfl)) row24 rfl) ?_
    refine wlCallS hC hB rfl co60 rfl rfl (most_ret _ _ hC.holds _ s.crew (Crew.mkIs (x := s.crew) hn7)) ?_; intro w hk hC hB
    refine V_ (opGeq rfl rfl) <| A_ rfl <| wlThen <| wcRet ?_
    exact r1_ hQ rfl rfl (endS hC hw (congrArg Value.bool (comm_fin hf17 h31 hn hc hle35)))
   ·
    refine wlNext1 hC hB (i := 0) rfl rfl hw43 hr36 rfl ?_; intro w hC hB
    refine V_ (opExtract rfl rfl) <| wlThen <| wcSeq <| wcCondT rfl <| wcSkip <| wcOf ?_
    refine wcBlock (wcSeq (wcRegion ?_))
    obtain ⟨v46, y47, hy48, hv49, hr50⟩ := hc45.entry (keyL_int ui3).inj hM24
    obtain rfl := isWd hv49
    refine V_ (opEntryH rfl (hr50 _ _ (hC.heldAt 0 rfl) (hl26.at_ hC.holds))) <| V_ (opExtract rfl rfl) ?_
    refine wlAlloc hC hB zero78 rfl ?_; intro b51 w hk hC hB
    refine wlStore 0 (vs := y47.cells) (cs := ((.int .i64 0) :: (Dig.zero.cells ++ []))) (cs' := y47.cells) hC hB rfl rfl rfl sz78 rfl (by simp [cl_]) (by simp [cl_, Value.oneCell']) (by simp [cl_]) (by simp [cl_]) rfl ?_; intro w hC hB
    refine wlThen <| wcSeq ?_
    refine wcDrawS 6 [0, 0, 2, 6, 14, 31] fmix (by kernel_rfl) (by kernel_rfl) rfl hC hB ?_; intro w hC hB
    refine E_ 0 rfl rfl (opLoadRow (cs := y47.cells) rfl (hB.range (i := 0) (m := 33) rfl (by simp [cl_])) row78 (by simp [cl_])) <| D_ 1 rfl rfl (fun _ => opMove rfl) <| D_ 2 rfl rfl (fun _ => opNilCheck rfl) <| D_ 3 rfl rfl (fun _ => (opFieldAddr rfl fo81_0)) <| E_ 4 rfl rfl (opLoadRow (cs := t19.last.cells) rfl (RowG.range hC.holds (hF22.part (i := 0) (m := 33) (by simp [cl_]))) row78 (by simp [cl_])) <| D_ 5 rfl rfl (fun _ => (opEqRow (eq78 _ y47 t19.last) eg78 rfl rfl)) <| wdDone (by kernel_rfl) <| wcOf ?_
    cases h52 : decide (y47 = t19.last)
    ·
     refine wcCondF rfl <| wcSkip <| wrOf ?_
     exact (IH0 (n, c, it41, (la37 ++ lb39)) _ _ ⟨hC, hB.tail, hn7, hOs, hs, hM8, hH9, hb10, hl11, hL12, hr20, hx21, hq27, hM23, hM24, hl25, hl26, hF13, hsil, hF22, hI44, hn, (cntC_step (p := false) (by rw [← hle35]; exact hc) hy48 h52)⟩ (by rw [hle35]; simp)).sub (fun _ ha => ((((ha.start.c ha 0 rfl).c ha 5 rfl).c ha 6 rfl).c ha 24 rfl))
    ·
     refine wcCondT rfl <| wcRegion <| M_ rfl <| V_ (opAdd rfl rfl) <| A_ rfl <| wlNil <| wrOf ?_
     exact (IH0 (IntKind.wrap .i64 (n + 1), (c + 1), it41, (la37 ++ lb39)) _ _ ⟨hC, hB.tail, hn7, hOs, hs, hM8, hH9, hb10, hl11, hL12, hr20, hx21, hq27, hM23, hM24, hl25, hl26, hF13, hsil, hF22, hI44, (by rw [hn]; exact wrap_inc c), (cntC_step (p := true) (by rw [← hle35]; exact hc) hy48 h52)⟩ (by rw [hle35]; simp)).sub (fun _ ha => ((((ha.start.c ha 0 rfl).c ha 5 rfl).c ha 6 rfl).c ha 24 rfl))

theorem p_ret (G0 : Gh) (w0 : World) (hw : Holds G0 w0) (bs : Nat) (Os : List (Nat × Obj)) (s : SlS) (hOs : HasL G0 Os) (hs : SlO G0 bs Os s) (hsil : RowG G0 0 0 silence.cells) (hlow : 0 ≤ s.low ∧ s.low ≤ 9007199254740983) :
  RetO Tryz.prog 18 #[.pointer (some ⟨bs, 0, none⟩)] G0 w0 (fun G o v => ∃ A cap, v = (.slice A ((pI s.f (s.low + 1) 8)).length cap) ∧ Ow G o 44 (.slice A ((pI s.f (s.low + 1) 8)).length cap) ((pI s.f (s.low + 1) 8))) := by
 have hC := Cx.refl hw
 have hB : Bxs G0 w0 w0.heap.size [] := Bxs.nil _ _ _
 obtain ⟨v1, l2, om3, D4, H5, e6, hn7, hM8, hH9⟩ := id hs
 obtain ⟨A14, cap15, rfl⟩ := hn7.form
 have hb10 : HasO G0 bs (.cells [(.int .i64 s.crew.faults), (.slice A14 s.crew.nodes.length cap15), (.int .i64 s.low), (.map (some l2))].toArray 56 (0, 0)) := hOs (bs, (.cells [(.int .i64 s.crew.faults), (.slice A14 s.crew.nodes.length cap15), (.int .i64 s.low), (.map (some l2))].toArray 56 (0, 0))) (by rw [e6]; simp)
 have hl11 : HasO G0 l2 om3 := hOs (l2, om3) (by rw [e6]; simp)
 have hL12 : HasL G0 H5 := fun x hx => hOs x (by rw [e6]; simp [hx])
 have hF13 := hb10.row
 refine callsOf Tryz.func18 rfl _ Tryz.ntmps18 rfl _ (argsCons argsNil (t := 0) rfl) ?_; intro Q0 hQ
 refine wcSeq <| wcRegion <| A_ rfl ?_
 refine wlThen (wcSeq (wcSeq (wcRegion ?_)))
 refine M_ rfl ?_
 refine wlCallS hC hB rfl co11 rfl rfl (low_ret _ _ hC.holds bs l2 _ s hb10 hn7) ?_; intro w hk hC hB
 refine V_ (opAdd rfl rfl) <| A_ rfl <| wlThen <| wcBlock ?_
 refine WC.sub (wrInd (ι := Int × (Option Addr) × Nat × (Option Bx) × (List Stand) × Nat) (fun i => match i with | (k, outA, outC, outO, out, i) => 8 - i) (fun i G w => match i with | (k, outA, outC, outO, out, i) => Cx w0 G0 G w ∧ Bxs G w w0.heap.size ([] ++ (Option.toList outO ++ [])) ∧ Sl G (.slice A14 s.crew.nodes.length cap15) s.crew.nodes ∧ HasL G Os ∧ SlO G bs Os s ∧ MpO kI G om3 D4 ∧ SlH G D4 H5 s.f ∧ HasO G bs (.cells [(.int .i64 s.crew.faults), (.slice A14 s.crew.nodes.length cap15), (.int .i64 s.low), (.map (some l2))].toArray 56 (0, 0)) ∧ HasO G l2 om3 ∧ HasL G H5 ∧ Ow G outO 44 (.slice outA out.length outC) out ∧ RowG G bs 0 [(.int .i64 s.crew.faults), (.slice A14 s.crew.nodes.length cap15), (.int .i64 s.low), (.map (some l2))] ∧ RowG G 0 0 silence.cells ∧ i ≤ 8 ∧ k = s.low + 1 + i ∧ out = pI s.f (s.low + 1) i) (fun i => match i with | (k, outA, outC, outO, out, i) => (((Env.nil.put 0 (.pointer (some ⟨bs, 0, none⟩))).put 2 (.slice outA out.length outC)).put 3 (.int .i64 k))) ?_ (IntKind.wrap .i64 (s.low + 1), none, 0, none, [], 0) _ _ ⟨hC, hB, hn7, hOs, hs, hM8, hH9, hb10, hl11, hL12, (Ow.nil_ _ 44), hF13, hsil, (Nat.zero_le _), (lowk0 hlow), rfl⟩) (fun _ ha => (((ha.start.c ha 0 rfl).c ha 2 rfl).c ha 3 rfl))
 rintro ⟨k, outA, outC, outO, out, i⟩ G w N0 IH0 ⟨hC, hB, hn7, hOs, hs, hM8, hH9, hb10, hl11, hL12, hOout, hF13, hsil, hi, hkk, hA⟩
 refine wcSeq (wcSeq (wcRegion ?_))
 refine M_ rfl <| M_ rfl ?_
 refine wlCallS hC hB rfl co11 rfl rfl (low_ret _ _ hC.holds bs l2 _ s hb10 hn7) ?_; intro w hk hC hB
 refine V_ (opAdd rfl rfl) <| V_ (opLeq rfl rfl) <| wlThen ?_
 cases h16 : decide (k ≤ IntKind.wrap .i64 (s.low + 8))
 ·
  refine wcCondF rfl <| wcExit <| wcOf <| wcSeq <| wcRegion <| M_ rfl <| A_ rfl <| wlThen <| wcRet ?_
  exact r1_ hQ rfl rfl (endO (bl := []) (o := outO) (r := []) hC hB (by have e : out = pI s.f (s.low + 1) 8 := lowk_end hlow hi hkk hA h16; rw [← e]; exact ⟨_, _, rfl, hOout⟩))
 ·
  refine wcCondT rfl <| wcSkip <| wcOf <| wcSeq ?_
  refine wcBlock (wcSeq (wcRegion ?_))
  refine M_ rfl <| M_ rfl ?_
  refine wlCallG hC hB rfl co47 rfl rfl (slotAt_ret _ _ hC.holds bs Os s hOs hs k) ?_; rintro v17 G w hk hC hB (⟨hf18, rfl⟩ | ⟨r19, t20, hf18, rfl, hr21, hx22⟩)
  ·
   replace hn7 := hn7.mono hk.gle; replace hOs := hOs.mono hk.gle; replace hs := hs.mono hk.gle; replace hM8 := hM8.mono hk.gle; replace hH9 := hH9.mono hk.gle; replace hb10 := hb10.mono hk.gle; replace hl11 := hl11.mono hk.gle; replace hL12 := hL12.mono hk.gle; replace hOout := hOout.mono hk.gle
   replace hF13 := hF13.mono hk.gle
   replace hsil := hsil.mono hk.gle
   refine A_ rfl <| wlThen <| wcSeq ?_
   refine wcDrawS 10 [0, 1, 3, 7, 15, 31, 63, 7, 255, 511] fmix (by kernel_rfl) (by kernel_rfl) rfl hC hB ?_; intro w hC hB
   refine D_ 0 rfl rfl (fun _ => opMove rfl) <| D_ 1 rfl rfl (fun _ => (OpVal.cast (v' := .bool false) (opPtrNe ip75 rfl rfl) rfl)) <| D_ 2 rfl rfl (fun _ => opMove rfl) <| O_ 3 rfl rfl rfl rfl rfl <| O_ 4 rfl rfl rfl rfl rfl <| O_ 5 rfl rfl rfl rfl rfl <| O_ 6 rfl rfl rfl rfl rfl <| O_ 7 rfl rfl rfl rfl rfl <| O_ 8 rfl rfl rfl rfl rfl <| D_ 9 rfl rfl (fun _ => opPickF rfl rfl) <| wdDone (by kernel_rfl) <| wcOf <| wcCondF rfl <| wcSkip <| wcOf <| wcRegion <| M_ rfl <| V_ (opAdd rfl rfl) <| A_ rfl <| wlRound ?_
   exact (IH0 (IntKind.wrap .i64 (k + 1), outA, outC, outO, out, (i + 1)) _ _ ⟨hC, hB, hn7, hOs, hs, hM8, hH9, hb10, hl11, hL12, hOout, hF13, hsil, (lowk_lt hlow hkk h16), (lowk_step hlow hkk h16), (by rw [← pI_step hA hkk]; simp only [pAt, hf18, cond_true, cond_false, List.append_nil])⟩ (by have := lowk_lt hlow hkk h16; show 8 - (i + 1) < 8 - i; omega)).sub (fun _ ha => (((ha.start.c ha 0 rfl).c ha 2 rfl).c ha 3 rfl))
  ·
   replace hn7 := hn7.mono hk.gle; replace hOs := hOs.mono hk.gle; replace hs := hs.mono hk.gle; replace hM8 := hM8.mono hk.gle; replace hH9 := hH9.mono hk.gle; replace hb10 := hb10.mono hk.gle; replace hl11 := hl11.mono hk.gle; replace hL12 := hL12.mono hk.gle; replace hOout := hOout.mono hk.gle
   replace hF13 := hF13.mono hk.gle
   replace hsil := hsil.mono hk.gle
   have hF23 := hx22.row hr21
   have hM24 := hx22.pre
   have hM25 := hx22.com
   have hl26 := hr21.m1
   have hl27 := hr21.m2
   have hq28 := hx22.qSl hr21
   obtain ⟨A29, cap30, e31⟩ := hq28.form
   rw [e31] at hq28 hF23
   refine A_ rfl <| wlThen <| wcSeq ?_
   refine wcDrawS 10 [0, 1, 3, 7, 15, 31, 63, 7, 255, 511] fmix (by kernel_rfl) (by kernel_rfl) rfl hC hB ?_; intro w hC hB
   refine D_ 0 rfl rfl (fun _ => opMove rfl) <| D_ 1 rfl rfl (fun _ => (OpVal.cast (v' := .bool true) (opPtrNe ip75 rfl rfl) rfl)) <| D_ 2 rfl rfl (fun _ => opMove rfl) <| DG_ 3 rfl rfl rfl rfl (fun _ => opMove rfl) <| DG_ 4 rfl rfl rfl rfl (fun _ => opNilCheck rfl) <| DG_ 5 rfl rfl rfl rfl (fun _ => (opFieldAddr rfl fo81_1)) <| EG_ 6 rfl rfl rfl rfl (opLoadRow (cs := t20.prep.cells) rfl (RowG.range hC.holds (hF23.part (i := 33) (m := 33) (by simp [cl_]))) row78 (by simp [cl_])) <| EG_ 7 rfl rfl rfl rfl (opLoadRow (cs := silence.cells) rfl (RowG.range hC.holds (hsil.part (i := 0) (m := 33) (by simp [cl_]))) row78 (by simp [cl_])) <| DG_ 8 rfl rfl rfl rfl (fun _ => (opNeRow (eq78 _ t20.prep silence) eg78 rfl rfl)) <| D_ 9 rfl rfl (fun _ => opPickT rfl rfl) <| wdDone (by kernel_rfl) <| wcOf ?_
   cases h32 : decide (t20.prep = silence)
   ·
    refine wcCondT rfl ?_
    refine wcDrawS 16 [0, 0, 0, 4, 12, 28, 60, 0, 128, 384, 896, 1920, 4094, 8190, 16383, 32767] fmix (by kernel_rfl) (by kernel_rfl) rfl hC hB ?_; intro w hC hB
    refine D_ 0 rfl rfl (fun _ => opMove rfl) <| D_ 1 rfl rfl (fun _ => opMove rfl) <| D_ 2 rfl rfl (fun _ => opMove rfl) <| D_ 3 rfl rfl (fun _ => opNilCheck rfl) <| D_ 4 rfl rfl (fun _ => (opFieldAddr rfl fo81_1)) <| D_ 5 rfl rfl (fun _ => (opFieldAddr rfl fo78_1)) <| E_ 6 rfl rfl (opLoadRow (cs := t20.prep.dig.cells) rfl (RowG.range hC.holds (hF23.part (i := 34) (m := 32) (by simp [cl_]))) row37 (by simp [cl_])) <| D_ 7 rfl rfl (fun _ => opMove rfl) <| D_ 8 rfl rfl (fun _ => opNilCheck rfl) <| D_ 9 rfl rfl (fun _ => (opFieldAddr rfl fo81_1)) <| D_ 10 rfl rfl (fun _ => (opFieldAddr rfl fo78_0)) <| E_ 11 rfl rfl (opLoadOne (v := (.int .i64 t20.prep.view)) rfl (RowG.cell hC.holds hF23 (j := 33) (by simp [cl_])) one3) <| D_ 12 rfl rfl (fun _ => (B_ (ps := [(0, .tmp 29), (1, .tmp 34), (2, .tmp 39)]) (cs := ((.int .i64 k) :: (t20.prep.dig.cells ++ ((.int .i64 t20.prep.view) :: [])))) so44 zero44 rfl rfl)) ?_
    refine wdAll [13] (by kernel_rfl) rfl ⟨wd1 rfl ?_, trivial⟩
    intro hGd
    refine wlBuildSlice (α := Stand) (ps := [(0, .tmp 40)]) (xs := [(Stand.mk k t20.prep.dig t20.prep.view)]) (rows := [((.int .i64 k) :: (t20.prep.dig.cells ++ ((.int .i64 t20.prep.view) :: [])))]) elo38 rfl rfl hC hB rfl rfl rfl ⟨rfl, trivial⟩ rfl ?_; intro b33 G w hk hC hB hs34
    replace hn7 := hn7.mono hk.gle; replace hOs := hOs.mono hk.gle; replace hs := hs.mono hk.gle; replace hM8 := hM8.mono hk.gle; replace hH9 := hH9.mono hk.gle; replace hb10 := hb10.mono hk.gle; replace hl11 := hl11.mono hk.gle; replace hL12 := hL12.mono hk.gle; replace hOout := hOout.mono hk.gle
    replace hF13 := hF13.mono hk.gle
    replace hsil := hsil.mono hk.gle
    refine wdNext hGd rfl (kpDrop rfl (kpDrop rfl kpNil)) (Tk.nil _) ?_
    refine wdAll [14] (by kernel_rfl) rfl ⟨wd1 rfl ?_, trivial⟩
    intro hGd
    refine wlAppend (α := Stand) (bl := []) (o := outO) (r := []) elo38 hC hB rfl rfl hOout hs34 (by have q := pI_len s.f (s.low + 1) i; rw [← hA] at q; simp; omega) rfl rfl ?_; intro A35 cap36 o37 w hC hB hO38
    refine wdNext hGd rfl kpNil (Tk.nil _) ?_
    refine D_ 15 rfl rfl (fun _ => opAssign rfl) <| wdDone (by kernel_rfl) <| wcOf <| wcRegion <| M_ rfl <| V_ (opAdd rfl rfl) <| A_ rfl <| wlRound ?_
    exact (IH0 (IntKind.wrap .i64 (k + 1), A35, cap36, o37, (out ++ [(Stand.mk k t20.prep.dig t20.prep.view)]), (i + 1)) _ _ ⟨hC, hB, hn7, hOs, hs, hM8, hH9, hb10, hl11, hL12, hO38, hF13, hsil, (lowk_lt hlow hkk h16), (lowk_step hlow hkk h16), (by rw [← pI_step hA hkk]; simp only [pAt, hf18, h32, cond_true, cond_false, List.append_nil])⟩ (by have := lowk_lt hlow hkk h16; show 8 - (i + 1) < 8 - i; omega)).sub (fun _ ha => (((ha.start.c ha 0 rfl).c ha 2 rfl).c ha 3 rfl))
   ·
    refine wcCondF rfl <| wcSkip <| wcOf <| wcRegion <| M_ rfl <| V_ (opAdd rfl rfl) <| A_ rfl <| wlRound ?_
    exact (IH0 (IntKind.wrap .i64 (k + 1), outA, outC, outO, out, (i + 1)) _ _ ⟨hC, hB, hn7, hOs, hs, hM8, hH9, hb10, hl11, hL12, hOout, hF13, hsil, (lowk_lt hlow hkk h16), (lowk_step hlow hkk h16), (by rw [← pI_step hA hkk]; simp only [pAt, hf18, h32, cond_true, cond_false, List.append_nil])⟩ (by have := lowk_lt hlow hkk h16; show 8 - (i + 1) < 8 - i; omega)).sub (fun _ ha => (((ha.start.c ha 0 rfl).c ha 2 rfl).c ha 3 rfl))

theorem q_ret (G0 : Gh) (w0 : World) (hw : Holds G0 w0) (bs : Nat) (Os : List (Nat × Obj)) (s : SlS) (hOs : HasL G0 Os) (hs : SlO G0 bs Os s) (hlow : 0 ≤ s.low ∧ s.low ≤ 9007199254740983) (hqb : ∀ k t, s.f k = some t → t.q.length ≤ 1000000) :
  RetO Tryz.prog 19 #[.pointer (some ⟨bs, 0, none⟩)] G0 w0 (fun G o v => ∃ A cap, v = (.slice A ((qI s.f (s.low + 1) 8)).length cap) ∧ Ow G o 44 (.slice A ((qI s.f (s.low + 1) 8)).length cap) ((qI s.f (s.low + 1) 8))) := by
 have hC := Cx.refl hw
 have hB : Bxs G0 w0 w0.heap.size [] := Bxs.nil _ _ _
 obtain ⟨v1, l2, om3, D4, H5, e6, hn7, hM8, hH9⟩ := id hs
 obtain ⟨A14, cap15, rfl⟩ := hn7.form
 have hb10 : HasO G0 bs (.cells [(.int .i64 s.crew.faults), (.slice A14 s.crew.nodes.length cap15), (.int .i64 s.low), (.map (some l2))].toArray 56 (0, 0)) := hOs (bs, (.cells [(.int .i64 s.crew.faults), (.slice A14 s.crew.nodes.length cap15), (.int .i64 s.low), (.map (some l2))].toArray 56 (0, 0))) (by rw [e6]; simp)
 have hl11 : HasO G0 l2 om3 := hOs (l2, om3) (by rw [e6]; simp)
 have hL12 : HasL G0 H5 := fun x hx => hOs x (by rw [e6]; simp [hx])
 have hF13 := hb10.row
 refine callsOf Tryz.func19 rfl _ Tryz.ntmps19 rfl _ (argsCons argsNil (t := 0) rfl) ?_; intro Q0 hQ
 refine wcSeq <| wcRegion <| A_ rfl ?_
 refine wlThen (wcSeq (wcSeq (wcRegion ?_)))
 refine M_ rfl ?_
 refine wlCallS hC hB rfl co11 rfl rfl (low_ret _ _ hC.holds bs l2 _ s hb10 hn7) ?_; intro w hk hC hB
 refine V_ (opAdd rfl rfl) <| A_ rfl <| wlThen <| wcBlock ?_
 refine WC.sub (wrInd (ι := Int × (Option Addr) × Nat × (Option Bx) × (List Stand) × Nat) (fun i => match i with | (k, outA, outC, outO, out, i) => 8 - i) (fun i G w => match i with | (k, outA, outC, outO, out, i) => Cx w0 G0 G w ∧ Bxs G w w0.heap.size ([] ++ (Option.toList outO ++ [])) ∧ Sl G (.slice A14 s.crew.nodes.length cap15) s.crew.nodes ∧ HasL G Os ∧ SlO G bs Os s ∧ MpO kI G om3 D4 ∧ SlH G D4 H5 s.f ∧ HasO G bs (.cells [(.int .i64 s.crew.faults), (.slice A14 s.crew.nodes.length cap15), (.int .i64 s.low), (.map (some l2))].toArray 56 (0, 0)) ∧ HasO G l2 om3 ∧ HasL G H5 ∧ Ow G outO 44 (.slice outA out.length outC) out ∧ RowG G bs 0 [(.int .i64 s.crew.faults), (.slice A14 s.crew.nodes.length cap15), (.int .i64 s.low), (.map (some l2))] ∧ i ≤ 8 ∧ k = s.low + 1 + i ∧ out = qI s.f (s.low + 1) i) (fun i => match i with | (k, outA, outC, outO, out, i) => (((Env.nil.put 0 (.pointer (some ⟨bs, 0, none⟩))).put 2 (.slice outA out.length outC)).put 3 (.int .i64 k))) ?_ (IntKind.wrap .i64 (s.low + 1), none, 0, none, [], 0) _ _ ⟨hC, hB, hn7, hOs, hs, hM8, hH9, hb10, hl11, hL12, (Ow.nil_ _ 44), hF13, (Nat.zero_le _), (lowk0 hlow), rfl⟩) (fun _ ha => (((ha.start.c ha 0 rfl).c ha 2 rfl).c ha 3 rfl))
 rintro ⟨k, outA, outC, outO, out, i⟩ G w N0 IH0 ⟨hC, hB, hn7, hOs, hs, hM8, hH9, hb10, hl11, hL12, hOout, hF13, hi, hkk, hA⟩
 refine wcSeq (wcSeq (wcRegion ?_))
 refine M_ rfl <| M_ rfl ?_
 refine wlCallS hC hB rfl co11 rfl rfl (low_ret _ _ hC.holds bs l2 _ s hb10 hn7) ?_; intro w hk hC hB
 refine V_ (opAdd rfl rfl) <| V_ (opLeq rfl rfl) <| wlThen ?_
 cases h16 : decide (k ≤ IntKind.wrap .i64 (s.low + 8))
 ·
  refine wcCondF rfl <| wcExit <| wcOf <| wcSeq <| wcRegion <| M_ rfl <| A_ rfl <| wlThen <| wcRet ?_
  exact r1_ hQ rfl rfl (endO (bl := []) (o := outO) (r := []) hC hB (by have e : out = qI s.f (s.low + 1) 8 := lowk_end hlow hi hkk hA h16; rw [← e]; exact ⟨_, _, rfl, hOout⟩))
 ·
  refine wcCondT rfl <| wcSkip <| wcOf <| wcSeq ?_
  refine wcBlock (wcSeq (wcRegion ?_))
  refine M_ rfl <| M_ rfl ?_
  refine wlCallG hC hB rfl co47 rfl rfl (slotAt_ret _ _ hC.holds bs Os s hOs hs k) ?_; rintro v17 G w hk hC hB (⟨hf18, rfl⟩ | ⟨r19, t20, hf18, rfl, hr21, hx22⟩)
  ·
   replace hn7 := hn7.mono hk.gle; replace hOs := hOs.mono hk.gle; replace hs := hs.mono hk.gle; replace hM8 := hM8.mono hk.gle; replace hH9 := hH9.mono hk.gle; replace hb10 := hb10.mono hk.gle; replace hl11 := hl11.mono hk.gle; replace hL12 := hL12.mono hk.gle; replace hOout := hOout.mono hk.gle
   replace hF13 := hF13.mono hk.gle
   refine A_ rfl ?_
   refine wlThen (wcSeq (wcRegion ?_))
   refine M_ rfl <| V_ (OpVal.cast (v' := .bool false) (opPtrNe ip75 rfl rfl) rfl) <| wlThen <| wcCondF rfl <| wcSkip <| wcOf <| wcRegion <| M_ rfl <| V_ (opAdd rfl rfl) <| A_ rfl <| wlRound ?_
   exact (IH0 (IntKind.wrap .i64 (k + 1), outA, outC, outO, out, (i + 1)) _ _ ⟨hC, hB, hn7, hOs, hs, hM8, hH9, hb10, hl11, hL12, hOout, hF13, (lowk_lt hlow hkk h16), (lowk_step hlow hkk h16), (by rw [← qI_step hA hkk]; simp only [qAt, hf18, cond_true, cond_false, List.append_nil])⟩ (by have := lowk_lt hlow hkk h16; show 8 - (i + 1) < 8 - i; omega)).sub (fun _ ha => (((ha.start.c ha 0 rfl).c ha 2 rfl).c ha 3 rfl))
  ·
   replace hn7 := hn7.mono hk.gle; replace hOs := hOs.mono hk.gle; replace hs := hs.mono hk.gle; replace hM8 := hM8.mono hk.gle; replace hH9 := hH9.mono hk.gle; replace hb10 := hb10.mono hk.gle; replace hl11 := hl11.mono hk.gle; replace hL12 := hL12.mono hk.gle; replace hOout := hOout.mono hk.gle
   replace hF13 := hF13.mono hk.gle
   have hF23 := hx22.row hr21
   have hM24 := hx22.pre
   have hM25 := hx22.com
   have hl26 := hr21.m1
   have hl27 := hr21.m2
   have hq28 := hx22.qSl hr21
   obtain ⟨A29, cap30, e31⟩ := hq28.form
   rw [e31] at hq28 hF23
   refine A_ rfl ?_
   refine wlThen (wcSeq (wcRegion ?_))
   refine M_ rfl <| V_ (OpVal.cast (v' := .bool true) (opPtrNe ip75 rfl rfl) rfl) <| wlThen <| wcCondT rfl <| wcRegion <| M_ rfl <| M_ rfl <| V_ (opNilCheck rfl) <| V_ (opFieldAddr rfl fo81_4) <| V_ (opLoadOne (v := (.slice A29 t20.q.length cap30)) rfl (RowG.cell hC.holds hF23 (j := 68) (by simp [cl_])) one38) ?_
   refine wlAppend (α := Stand) (bl := []) (o := outO) (r := []) elo38 hC hB rfl rfl hOout hq28 (by have q := qI_len s.f (s.low + 1) hqb i; rw [← hA] at q; have q2 := hqb _ _ hf18; simp; omega) rfl rfl ?_; intro A32 cap33 o34 w hC hB hO35
   refine A_ rfl <| wlNil <| wcOf <| wcRegion <| M_ rfl <| V_ (opAdd rfl rfl) <| A_ rfl <| wlRound ?_
   exact (IH0 (IntKind.wrap .i64 (k + 1), A32, cap33, o34, (out ++ t20.q), (i + 1)) _ _ ⟨hC, hB, hn7, hOs, hs, hM8, hH9, hb10, hl11, hL12, hO35, hF13, (lowk_lt hlow hkk h16), (lowk_step hlow hkk h16), (by rw [← qI_step hA hkk]; simp only [qAt, hf18, cond_true, cond_false, List.append_nil])⟩ (by have := lowk_lt hlow hkk h16; show 8 - (i + 1) < 8 - i; omega)).sub (fun _ ha => (((ha.start.c ha 0 rfl).c ha 2 rfl).c ha 3 rfl))

end Go.Proofs.YtljcgggflgbenaaGreatDoor
