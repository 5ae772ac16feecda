/- What functions of the pick seat return, part 28. No condition. -/
import Derived.Test.YtbhkoipmojdkhaaPkG27
import Derived.Test.YtbhkoipmojdkhaaGxThree
set_option linter.all false
namespace Go.Proofs.Ytbhkoipmojdkhaa
open Go Go.Gx Go.RowKit
structure Past where
  other : Bool
  same : Bool
  b : UInt8
  view : Int
  proposed : List UInt8
  deriving DecidableEq, Inhabited
instance : Rp Past := ⟨5, fun G cs x => ∃ v0, cs = [.bool x.other, .bool x.same, .int .u8 (x.b.toNat : Int), .int .i64 x.view, v0] ∧ Sl G v0 x.proposed, fun ⟨_, h, _⟩ => by rw [h]; simp, fun ⟨v0, h, hv0⟩ => by obtain ⟨Av0, cv0, rfl⟩ := hv0.form; rw [h]; simp [Value.oneCell'], fun hg ⟨v0, h, hv0⟩ => ⟨v0, h, hv0.mono hg⟩⟩
theorem Past.opIs {G : Gh} {cs : List Value} {x : Past} (h : Rp.Is G cs x) : ∃ v0, cs = [.bool x.other, .bool x.same, .int .u8 (x.b.toNat : Int), .int .i64 x.view, v0] ∧ Sl G v0 x.proposed := h
theorem Past.mkIs {G : Gh} {x : Past} {v0 : Value} (hv0 : Sl G v0 x.proposed) : Rp.Is G [.bool x.other, .bool x.same, .int .u8 (x.b.toNat : Int), .int .i64 x.view, v0] x := ⟨_, rfl, hv0⟩
structure Liar where
  c : Change
  deriving DecidableEq, Inhabited
instance : Rp Liar := ⟨6, fun G cs x => ∃ v0 v1 v2, cs = [.int .i64 x.c.node, .int .i64 x.c.view, .int .i64 x.c.low, v0, v1, v2] ∧ Sl G v0 x.c.marks ∧ Sl G v1 x.c.p ∧ Sl G v2 x.c.q, fun ⟨_, _, _, h, _⟩ => by rw [h]; simp, fun ⟨v0, v1, v2, h, hv0, hv1, hv2⟩ => by obtain ⟨Av0, cv0, rfl⟩ := hv0.form; obtain ⟨Av1, cv1, rfl⟩ := hv1.form; obtain ⟨Av2, cv2, rfl⟩ := hv2.form; rw [h]; simp [Value.oneCell'], fun hg ⟨v0, v1, v2, h, hv0, hv1, hv2⟩ => ⟨v0, v1, v2, h, hv0.mono hg, hv1.mono hg, hv2.mono hg⟩⟩
theorem Liar.opIs {G : Gh} {cs : List Value} {x : Liar} (h : Rp.Is G cs x) : ∃ v0 v1 v2, cs = [.int .i64 x.c.node, .int .i64 x.c.view, .int .i64 x.c.low, v0, v1, v2] ∧ Sl G v0 x.c.marks ∧ Sl G v1 x.c.p ∧ Sl G v2 x.c.q := h
theorem Liar.mkIs {G : Gh} {x : Liar} {v0 v1 v2 : Value} (hv0 : Sl G v0 x.c.marks) (hv1 : Sl G v1 x.c.p) (hv2 : Sl G v2 x.c.q) : Rp.Is G [.int .i64 x.c.node, .int .i64 x.c.view, .int .i64 x.c.low, v0, v1, v2] x := ⟨_, _, _, rfl, hv0, hv1, hv2⟩
structure A3 where
  x0 : Int
  x1 : Int
  x2 : Int
  deriving DecidableEq, Inhabited
def A3.cells (x : A3) : List Value := [.int .i64 x.x0, .int .i64 x.x1, .int .i64 x.x2]
@[simp] theorem A3.length_cells (x : A3) : x.cells.length = 3 := by simp [A3.cells]
instance : Rp A3 := ⟨3, fun _ cs x => cs = x.cells, fun h => by rw [h]; exact A3.length_cells _, fun h => by rw [h]; intro u hu; simp only [A3.cells, List.mem_cons, List.mem_append, List.not_mem_nil, or_false] at hu; rcases hu with rfl | rfl | rfl <;> first | rfl | exact mem_cells _ _ hu, fun _ h => h⟩

theorem getD_of {α : Type} {l : List α} {k : Nat} {x d : α} (h : l[k]? = some x) : l.getD k d = x := by rw [List.getD_eq_getElem?_getD, h]; rfl
def toldS (p : Past) (sq : Int) (kp : Bool) (i : Nat) : Stand :=
  Stand.mk sq (digI (100 + (p.proposed.getD i 0 &&& 7))) (bif (((((i : Nat) : Int)) == (((p.proposed.length - 1 : Nat) : Int))) && !kp) && !p.same then ((min 4 4 : Nat) : Int) else ((min i 4 : Nat) : Int))
def toldQ (p : Past) (sq : Int) (kp : Bool) (k : Nat) : List Stand := (List.range k).map (toldS p sq kp)
theorem toldQ_step {p : Past} {sq : Int} {kp : Bool} {k : Nat} : toldQ p sq kp (k + 1) = toldQ p sq kp k ++ [toldS p sq kp k] := by simp [toldQ, List.range_succ]
def toldI (p : Past) (nd sq : Int) (dg : Dig) (kp : Bool) : Change :=
  bif kp || p.same then Change.mk nd 1 0 [baseI] [Stand.mk sq dg (IntKind.wrap .i64 (4 + (bringI p.view 3)))] (toldQ p sq kp (min p.proposed.length 3) ++ [Stand.mk sq dg (IntKind.wrap .i64 (4 + (bringI p.view 3)))])
  else bif p.other then Change.mk nd 1 0 [baseI] [Stand.mk sq (digI (100 + (p.b &&& 7))) (bringI p.view 4)] (toldQ p sq kp (min p.proposed.length 3))
  else Change.mk nd 1 0 [baseI] [] (toldQ p sq kp (min p.proposed.length 3))
theorem toldQ_end {p : Past} {sq : Int} {kp : Bool} {k : Nat} {qs : List Stand} (hq : qs = toldQ p sq kp k) (h3 : k ≤ 3) (h : decide (k < p.proposed.length) = false ∨ decide (k < 3) = false) (hl : k ≤ p.proposed.length) : toldQ p sq kp (min p.proposed.length 3) = qs := by
  rw [hq]; congr 1
  rcases h with h | h
  · have := of_decide_eq_false h; omega
  · have := of_decide_eq_false h; omega
theorem toldQ_len {p : Past} {sq : Int} {kp : Bool} {k : Nat} {qs : List Stand} (hq : qs = toldQ p sq kp k) : qs.length = k := by rw [hq]; simp [toldQ]
theorem fo46_4 : fieldOk Try.prog 46 4 4 = true := by kernel_rfl
theorem one44 : oneOk Try.prog 44 = true := by kernel_rfl
theorem fo46_0 : fieldOk Try.prog 46 0 0 = true := by kernel_rfl
theorem one4 : oneOk Try.prog 4 = true := by kernel_rfl
theorem fo46_1 : fieldOk Try.prog 46 1 1 = true := by kernel_rfl
theorem fo46_3 : fieldOk Try.prog 46 3 3 = true := by kernel_rfl
theorem fo46_2 : fieldOk Try.prog 46 2 2 = true := by kernel_rfl
theorem plainN_ret (G0 : Gh) (w0 : World) (hw : Holds G0 w0) (n : Int) :
  RetG Try.prog 18 #[.int .i64 n] G0 w0 (fun G v => ∃ vm, v = (.agg [.int .i64 n, .int .i64 1, .int .i64 0, vm, .slice none 0 0, .slice none 0 0].toArray) ∧ Sl G vm [baseI]) := by
 have hC := Cx.refl hw
 have hB : Bxs G0 w0 w0.heap.size [] := Bxs.nil _ _ _
 refine callsOf Try.func18 rfl _ Try.ntmps18 rfl _ (argsCons argsNil (t := 0) rfl) ?_; intro Q0 hQ
 refine wcSeq (wcRegion ?_)
 refine wlAlloc hC hB zero49 rfl ?_; intro b1 w hk hC hB
 refine wlThen (wcSeq (wcRegion ?_))
 refine wlVal (opMove rfl) rfl ?_
 refine wlCallS hC hB rfl co20 rfl rfl (base_ret _ _ hC.holds ) ?_; intro w hk hC hB
 refine wlBuildSlice (α := Mark) (ps := [(0, .tmp 4)]) (xs := [baseI]) (rows := [baseI.cells]) elo31 rfl rfl hC hB rfl rfl rfl ⟨rfl, trivial⟩ rfl ?_; intro b2 G w hk hC hB hs3
 refine wlVal (opBuild (ps := [(0, .tmp 3), (1, .const (.int .i64 1)), (3, .tmp 5)]) (cs := [(.int .i64 n), (.int .i64 1), (.int .i64 0), (.slice (some ⟨b2, 0, none⟩) 1 1), (.slice none 0 0), (.slice none 0 0)]) so49 zero49 rfl rfl (by simp [buildCells, Value.cells])) rfl ?_
 refine wlStore 0 (vs := [(.int .i64 n), (.int .i64 1), (.int .i64 0), (.slice (some ⟨b2, 0, none⟩) 1 1), (.slice none 0 0), (.slice none 0 0)]) (cs := [(.int .i64 0), (.int .i64 0), (.int .i64 0), (.slice none 0 0), (.slice none 0 0), (.slice none 0 0)]) (cs' := [(.int .i64 n), (.int .i64 1), (.int .i64 0), (.slice (some ⟨b2, 0, none⟩) 1 1), (.slice none 0 0), (.slice none 0 0)]) hC hB rfl rfl rfl sz49 rfl rfl rfl (by simp [Mark.cells, Stand.cells]) rfl rfl ?_; intro w hC hB
 refine wlThen ?_
 refine wcRet ?_
 exact fun ac_ ha => hQ _ _ _ (results1 ha rfl ⟨_, _, [(.int .i64 n), (.int .i64 1), (.int .i64 0), (.slice (some ⟨b2, 0, none⟩) 1 1), (.slice none 0 0), (.slice none 0 0)], rfl, row49, rfl, hB.range (i := 0) (m := 6) rfl rfl, rfl⟩) ha.df (endG hC ⟨_, rfl, hs3⟩)

set_option maxHeartbeats 2000000 in
theorem told_ret (G0 : Gh) (w0 : World) (hw : Holds G0 w0) (csp : List Value) (p : Past) (hp : Rp.Is G0 csp p) (nd : Int) (sq : Int) (dg : Dig) (kp : Bool) :
  RetG Try.prog 17 #[.agg csp.toArray, .int .i64 nd, .int .i64 sq, .agg dg.cells.toArray, .int .i64 4, .bool kp] G0 w0 (fun G v => ∃ c0, v = (.agg c0.toArray) ∧ Rp.Is G c0 ((toldI p nd sq dg kp))) := by
 have hC := Cx.refl hw
 have hB : Bxs G0 w0 w0.heap.size [] := Bxs.nil _ _ _
 obtain ⟨v1, rfl, hs2⟩ := Past.opIs hp
 obtain ⟨A3, cap4, rfl⟩ := hs2.form
 refine callsOf Try.func17 rfl _ Try.ntmps17 rfl _ (argsCons (argsCons (argsCons (argsCons (argsCons (argsCons argsNil (t := 0) rfl) (t := 1) rfl) (t := 2) rfl) (t := 3) rfl) (t := 4) rfl) (t := 5) rfl) ?_; intro Q0 hQ
 refine wcSeq (wcRegion ?_)
 refine wlBox (cs := [(.bool p.other), (.bool p.same), (.int .u8 (((p.b).toNat : Int))), (.int .i64 p.view), (.slice A3 p.proposed.length cap4)]) hC hB rfl rfl rfl ?_; intro b5 w hk hC hB
 refine wlBox (cs := dg.cells) hC hB rfl rfl rfl ?_; intro b6 w hk hC hB
 refine wlAlloc hC hB zero49 rfl ?_; intro b7 w hk hC hB
 refine wlThen (wcSeq (wcRegion ?_))
 refine wlVal (opMove rfl) rfl ?_
 refine wlCallG hC hB rfl co18 rfl rfl (plainN_ret _ _ hC.holds nd) ?_; rintro v10 G w hk hC hB ⟨r8, rfl, r9⟩
 replace hs2 := hs2.mono hk.gle
 obtain ⟨A11, cap12, rfl⟩ := r9.form
 refine wlAlloc hC hB zero49 rfl ?_; intro b13 w hk hC hB
 refine wlStore 0 (vs := [(.int .i64 nd), (.int .i64 1), (.int .i64 0), (.slice A11 (([baseI]).length) cap12), (.slice none 0 0), (.slice none 0 0)]) (cs := [(.int .i64 0), (.int .i64 0), (.int .i64 0), (.slice none 0 0), (.slice none 0 0), (.slice none 0 0)]) (cs' := [(.int .i64 nd), (.int .i64 1), (.int .i64 0), (.slice A11 (([baseI]).length) cap12), (.slice none 0 0), (.slice none 0 0)]) hC hB rfl rfl rfl sz49 rfl rfl rfl (by simp [Mark.cells, Stand.cells]) rfl rfl ?_; intro w hC hB
 refine wlThen (wcSeq (wcSeq (wcRegion ?_)))
 refine wlVal (opAssign rfl) rfl ?_
 refine wlThen ?_
 refine wcBlock ?_
 refine WC.sub (wrInd (ι := Nat × (Option Addr) × Nat × (Option Bx) × (List Stand)) (fun i => match i with | (k, qsA, qsC, qsO, qs) => p.proposed.length - k) (fun i G w => match i with | (k, qsA, qsC, qsO, qs) => Cx w0 G0 G w ∧ Bxs G w w0.heap.size ([(b13, 49, [(.int .i64 nd), (.int .i64 1), (.int .i64 0), (.slice A11 (([baseI]).length) cap12), (.slice none 0 0), (.slice qsA qs.length qsC)]), (b7, 49, [(.int .i64 0), (.int .i64 0), (.int .i64 0), (.slice none 0 0), (.slice none 0 0), (.slice none 0 0)]), (b6, 28, dg.cells), (b5, 46, [(.bool p.other), (.bool p.same), (.int .u8 (((p.b).toNat : Int))), (.int .i64 p.view), (.slice A3 p.proposed.length cap4)])] ++ (Option.toList qsO ++ [])) ∧ Sl G (.slice A3 p.proposed.length cap4) p.proposed ∧ Sl G (.slice A11 (([baseI]).length) cap12) ([baseI]) ∧ Ow G qsO 58 (.slice qsA qs.length qsC) qs ∧ k ≤ 3 ∧ k ≤ p.proposed.length ∧ qs = toldQ p sq kp k) (fun i => match i with | (k, qsA, qsC, qsO, qs) => ((((((((Env.nil.put 2 (.int .i64 sq)).put 4 (.int .i64 4)).put 5 (.bool kp)).put 6 (.pointer (some ⟨b5, 0, none⟩))).put 9 (.pointer (some ⟨b6, 0, none⟩))).put 12 (.pointer (some ⟨b7, 0, none⟩))).put 13 (.pointer (some ⟨b13, 0, none⟩))).put 14 (.int .i64 (((k : Nat) : Int))))) ?_ (0, none, 0, none, []) _ _ ⟨hC, hB, hs2, r9, (Ow.nil_ _ 58), (Nat.zero_le _), (Nat.zero_le _), rfl⟩) (fun _ ha => ((((((((ha.start.cons ha (t := 2) rfl).cons ha (t := 4) rfl).cons ha (t := 5) rfl).cons ha (t := 6) rfl).cons ha (t := 9) rfl).cons ha (t := 12) rfl).cons ha (t := 13) rfl).cons ha (t := 14) rfl))
 rintro ⟨k, qsA, qsC, qsO, qs⟩ G w N0 IH0 ⟨hC, hB, hs2, r9, hOqs, hk3, hkl, hq⟩
 show WC _ _ _ _ ((((((((Env.nil.put 2 (.int .i64 sq)).put 4 (.int .i64 4)).put 5 (.bool kp)).put 6 (.pointer (some ⟨b5, 0, none⟩))).put 9 (.pointer (some ⟨b6, 0, none⟩))).put 12 (.pointer (some ⟨b7, 0, none⟩))).put 13 (.pointer (some ⟨b13, 0, none⟩))).put 14 (.int .i64 (((k : Nat) : Int)))) w
 refine wcSeq (wcSeq (wcRegion ?_))
 refine wlVal (opMove rfl) rfl ?_
 refine wlVal (opFieldAddr rfl fo46_4) rfl ?_
 refine wlVal (opLoadOne (v := (.slice A3 p.proposed.length cap4)) rfl (hB.cell (i := 3) rfl rfl) one44) rfl ?_
 refine wlVal (opLen rfl isl44) rfl ?_
 refine wlVal (opLssN rfl rfl) rfl ?_
 refine wlVal (opMove rfl) rfl ?_
 cases h14 : decide (k < p.proposed.length)
 ·
  skip
  refine wlOff rfl rfl rfl rfl ?_
  refine wlOff rfl rfl rfl rfl ?_
  refine wlVal (opPickF rfl rfl) rfl ?_
  refine wlThen ?_
  refine wcCondF rfl ?_
  refine wcExit ?_
  refine wcOf ?_
  refine wcSeq (wcSeq (wcRegion ?_))
  refine wlVal (opFieldAddr rfl fo46_0) rfl ?_
  refine wlVal (opLoadOne (v := (.bool p.other)) rfl (hB.cell (i := 3) rfl rfl) one4) rfl ?_
  refine wlVal (opMove rfl) rfl ?_
  cases h15 : p.other
  ·
   skip
   refine wlOff rfl rfl rfl rfl ?_
   refine wlOff rfl rfl rfl rfl ?_
   refine wlVal (opPickF rfl rfl) rfl ?_
   refine wlVal (opMove rfl) rfl ?_
   refine wlOff rfl rfl rfl rfl ?_
   refine wlOff rfl rfl rfl rfl ?_
   refine wlOff rfl rfl rfl rfl ?_
   refine wlVal (opPickF rfl rfl) rfl ?_
   refine wlThen ?_
   refine wcCondF rfl ?_
   refine wcSkip ?_
   refine wcOf ?_
   refine wcSeq (wcSeq (wcRegion ?_))
   refine wlVal (opMove rfl) rfl ?_
   refine wlVal (opMove rfl) rfl ?_
   cases h16 : kp
   ·
    skip
    refine wlOn rfl rfl ?_
    refine wlVal (opFieldAddr rfl fo46_1) rfl ?_
    refine wlOn rfl rfl ?_
    refine wlVal (opLoadOne (v := (.bool p.same)) rfl (hB.cell (i := 3) rfl rfl) one4) rfl ?_
    refine wlVal (opPickF rfl rfl) rfl ?_
    refine wlThen ?_
    cases h17 : p.same
    ·
     skip
     refine wcCondF rfl ?_
     refine wcSkip ?_
     refine wcOf ?_
     refine wcSeq (wcRegion ?_)
     refine wlVal (opLoadRow (cs := [(.int .i64 nd), (.int .i64 1), (.int .i64 0), (.slice A11 (([baseI]).length) cap12), (.slice none 0 0), (.slice qsA qs.length qsC)]) rfl (hB.range (i := 0) (m := 6) rfl rfl) row49 rfl) rfl ?_
     refine wlStore 1 (vs := [(.int .i64 nd), (.int .i64 1), (.int .i64 0), (.slice A11 (([baseI]).length) cap12), (.slice none 0 0), (.slice qsA qs.length qsC)]) (cs := [(.int .i64 0), (.int .i64 0), (.int .i64 0), (.slice none 0 0), (.slice none 0 0), (.slice none 0 0)]) (cs' := [(.int .i64 nd), (.int .i64 1), (.int .i64 0), (.slice A11 (([baseI]).length) cap12), (.slice none 0 0), (.slice qsA qs.length qsC)]) hC hB rfl rfl rfl sz49 rfl rfl rfl (by simp [Mark.cells, Stand.cells]) rfl rfl ?_; intro w hC hB
     replace hB : Bxs G w w0.heap.size ([(b13, 49, [(.int .i64 nd), (.int .i64 1), (.int .i64 0), (.slice A11 (([baseI]).length) cap12), (.slice none 0 0), (.slice qsA qs.length qsC)]), (b7, 49, [(.int .i64 nd), (.int .i64 1), (.int .i64 0), (.slice A11 (([baseI]).length) cap12), (.slice none 0 0), (.slice qsA qs.length qsC)]), (b6, 28, dg.cells), (b5, 46, [(.bool p.other), (.bool p.same), (.int .u8 (((p.b).toNat : Int))), (.int .i64 p.view), (.slice A3 p.proposed.length cap4)])] ++ (Option.toList qsO ++ [])) := hB
     refine wlThen ?_
     refine wcRet ?_
     obtain ⟨G, hg19, hC, hB, hs18⟩ := Ow.freeze' (bl := [(b13, 49, [(.int .i64 nd), (.int .i64 1), (.int .i64 0), (.slice A11 (([baseI]).length) cap12), (.slice none 0 0), (.slice qsA qs.length qsC)]), (b7, 49, [(.int .i64 nd), (.int .i64 1), (.int .i64 0), (.slice A11 (([baseI]).length) cap12), (.slice none 0 0), (.slice qsA qs.length qsC)]), (b6, 28, dg.cells), (b5, 46, [(.bool p.other), (.bool p.same), (.int .u8 (((p.b).toNat : Int))), (.int .i64 p.view), (.slice A3 p.proposed.length cap4)])]) (r := []) hOqs hC (Nat.le_refl _) hB (by have q := toldQ_len hq; simp [maxL]; omega)
     replace hs2 := hs2.mono hg19; replace r9 := r9.mono hg19
     exact fun ac_ ha => hQ _ _ _ (results1 ha rfl ⟨_, _, [(.int .i64 nd), (.int .i64 1), (.int .i64 0), (.slice A11 (([baseI]).length) cap12), (.slice none 0 0), (.slice qsA qs.length qsC)], rfl, row49, rfl, hB.range (i := 1) (m := 6) rfl rfl, rfl⟩) ha.df (endG hC (by rw [show toldI p nd sq dg kp = (Change.mk nd 1 0 ([baseI]) ([]) qs) from (by unfold toldI; rw [toldQ_end hq hk3 (by first | exact .inl h14 | exact .inr h14) hkl]; simp only [h15, h16, h17, Bool.and_true, Bool.and_false, Bool.true_and, Bool.false_and, Bool.not_true, Bool.not_false, Bool.or_true, Bool.true_or, Bool.or_false, cond_true, cond_false]; first | done | rfl | (exfalso; simp_all; done))]; exact ⟨_, rfl, (Change.mkIs (x := (Change.mk nd 1 0 ([baseI]) ([]) qs)) r9 (Sl.nil_ _) hs18)⟩))
    ·
     skip
     refine wcCondT rfl ?_
     refine wcSeq (wcRegion ?_)
     refine wlVal (opMove rfl) rfl ?_
     refine wlVal (opFieldAddr rfl fo46_3) rfl ?_
     refine wlVal (opLoadOne (v := (.int .i64 p.view)) rfl (hB.cell (i := 3) rfl rfl) one3) rfl ?_
     refine wlCallS hC hB rfl co15 rfl rfl (bring_ret _ _ hC.holds p.view 3) ?_; intro w hk hC hB
     refine wlVal (opAdd rfl rfl) rfl ?_
     refine wlVal (opAssign rfl) rfl ?_
     refine wlThen (wcSeq (wcRegion ?_))
     refine wlVal (opMove rfl) rfl ?_
     refine wlVal (opLoadRow (cs := dg.cells) rfl (hB.range (i := 2) (m := 32) rfl (by simp [Mark.cells, Stand.cells])) row28 (by simp [Mark.cells, Stand.cells])) rfl ?_
     refine wlVal (opMove rfl) rfl ?_
     refine wlVal (opBuild (ps := [(0, .tmp 101), (1, .tmp 102), (2, .tmp 103)]) (cs := ((.int .i64 sq) :: (dg.cells ++ ((.int .i64 (IntKind.wrap .i64 (4 + ((bringI p.view 3))))) :: [])))) so58 zero58 rfl rfl (by simp [buildCells, Value.cells])) rfl ?_
     refine wlBuildSlice (α := Stand) (ps := [(0, .tmp 104)]) (xs := [(Stand.mk sq dg (IntKind.wrap .i64 (4 + ((bringI p.view 3)))))]) (rows := [((.int .i64 sq) :: (dg.cells ++ ((.int .i64 (IntKind.wrap .i64 (4 + ((bringI p.view 3))))) :: [])))]) elo47 rfl rfl hC hB rfl rfl rfl ⟨rfl, trivial⟩ rfl ?_; intro b20 G w hk hC hB hs21
     replace hs2 := hs2.mono hk.gle; replace r9 := r9.mono hk.gle; replace hOqs := hOqs.mono hk.gle
     refine wlVal (opFieldAddr rfl fo49_4) rfl ?_
     refine wlStore 0 (vs := [(.slice (some ⟨b20, 0, none⟩) 1 1)]) (cs := [(.int .i64 nd), (.int .i64 1), (.int .i64 0), (.slice A11 (([baseI]).length) cap12), (.slice none 0 0), (.slice qsA qs.length qsC)]) (cs' := [(.int .i64 nd), (.int .i64 1), (.int .i64 0), (.slice A11 (([baseI]).length) cap12), (.slice (some ⟨b20, 0, none⟩) 1 1), (.slice qsA qs.length qsC)]) hC hB rfl rfl rfl sz47 rfl rfl rfl (by simp [Mark.cells, Stand.cells]) rfl rfl ?_; intro w hC hB
     replace hB : Bxs G w w0.heap.size ([(b13, 49, [(.int .i64 nd), (.int .i64 1), (.int .i64 0), (.slice A11 (([baseI]).length) cap12), (.slice (some ⟨b20, 0, none⟩) 1 1), (.slice qsA qs.length qsC)]), (b7, 49, [(.int .i64 0), (.int .i64 0), (.int .i64 0), (.slice none 0 0), (.slice none 0 0), (.slice none 0 0)]), (b6, 28, dg.cells), (b5, 46, [(.bool p.other), (.bool p.same), (.int .u8 (((p.b).toNat : Int))), (.int .i64 p.view), (.slice A3 p.proposed.length cap4)])] ++ (Option.toList qsO ++ [])) := hB
     refine wlThen (wcRegion ?_)
     refine wlVal (opFieldAddr rfl fo49_5) rfl ?_
     refine wlVal (opLoadOne (v := (.slice qsA qs.length qsC)) rfl (hB.cell (i := 0) rfl rfl) one47) rfl ?_
     refine wlVal (opMove rfl) rfl ?_
     refine wlVal (opLoadRow (cs := dg.cells) rfl (hB.range (i := 2) (m := 32) rfl (by simp [Mark.cells, Stand.cells])) row28 (by simp [Mark.cells, Stand.cells])) rfl ?_
     refine wlVal (opMove rfl) rfl ?_
     refine wlVal (opBuild (ps := [(0, .tmp 109), (1, .tmp 110), (2, .tmp 111)]) (cs := ((.int .i64 sq) :: (dg.cells ++ ((.int .i64 (IntKind.wrap .i64 (4 + ((bringI p.view 3))))) :: [])))) so58 zero58 rfl rfl (by simp [buildCells, Value.cells])) rfl ?_
     refine wlBuildSlice (α := Stand) (ps := [(0, .tmp 112)]) (xs := [(Stand.mk sq dg (IntKind.wrap .i64 (4 + ((bringI p.view 3)))))]) (rows := [((.int .i64 sq) :: (dg.cells ++ ((.int .i64 (IntKind.wrap .i64 (4 + ((bringI p.view 3))))) :: [])))]) elo47 rfl rfl hC hB rfl rfl rfl ⟨rfl, trivial⟩ rfl ?_; intro b22 G w hk hC hB hs23
     replace hs2 := hs2.mono hk.gle; replace r9 := r9.mono hk.gle; replace hOqs := hOqs.mono hk.gle; replace hs21 := hs21.mono hk.gle
     refine wlAppend (α := Stand) (bl := [(b13, 49, [(.int .i64 nd), (.int .i64 1), (.int .i64 0), (.slice A11 (([baseI]).length) cap12), (.slice (some ⟨b20, 0, none⟩) 1 1), (.slice qsA qs.length qsC)]), (b7, 49, [(.int .i64 0), (.int .i64 0), (.int .i64 0), (.slice none 0 0), (.slice none 0 0), (.slice none 0 0)]), (b6, 28, dg.cells), (b5, 46, [(.bool p.other), (.bool p.same), (.int .u8 (((p.b).toNat : Int))), (.int .i64 p.view), (.slice A3 p.proposed.length cap4)])]) (o := qsO) (r := []) elo47 hC hB rfl rfl hOqs hs23 (by have q := toldQ_len hq; simp; omega) rfl rfl ?_; intro A24 cap25 o26 w hC hB hO27
     refine wlVal (opFieldAddr rfl fo49_5) rfl ?_
     refine wlStore 0 (vs := [(.slice A24 (((qs ++ [(Stand.mk sq dg (IntKind.wrap .i64 (4 + ((bringI p.view 3)))))])).length) cap25)]) (cs := [(.int .i64 nd), (.int .i64 1), (.int .i64 0), (.slice A11 (([baseI]).length) cap12), (.slice (some ⟨b20, 0, none⟩) 1 1), (.slice qsA qs.length qsC)]) (cs' := [(.int .i64 nd), (.int .i64 1), (.int .i64 0), (.slice A11 (([baseI]).length) cap12), (.slice (some ⟨b20, 0, none⟩) 1 1), (.slice A24 (((qs ++ [(Stand.mk sq dg (IntKind.wrap .i64 (4 + ((bringI p.view 3)))))])).length) cap25)]) hC hB rfl rfl rfl sz47 rfl rfl rfl (by simp [Mark.cells, Stand.cells]) rfl rfl ?_; intro w hC hB
     replace hB : Bxs G w w0.heap.size ([(b13, 49, [(.int .i64 nd), (.int .i64 1), (.int .i64 0), (.slice A11 (([baseI]).length) cap12), (.slice (some ⟨b20, 0, none⟩) 1 1), (.slice A24 (((qs ++ [(Stand.mk sq dg (IntKind.wrap .i64 (4 + ((bringI p.view 3)))))])).length) cap25)]), (b7, 49, [(.int .i64 0), (.int .i64 0), (.int .i64 0), (.slice none 0 0), (.slice none 0 0), (.slice none 0 0)]), (b6, 28, dg.cells), (b5, 46, [(.bool p.other), (.bool p.same), (.int .u8 (((p.b).toNat : Int))), (.int .i64 p.view), (.slice A3 p.proposed.length cap4)])] ++ (Option.toList o26 ++ [])) := hB
     refine wlThen (wcSeq (wcRegion ?_))
     refine wlVal (opLoadRow (cs := [(.int .i64 nd), (.int .i64 1), (.int .i64 0), (.slice A11 (([baseI]).length) cap12), (.slice (some ⟨b20, 0, none⟩) 1 1), (.slice A24 (((qs ++ [(Stand.mk sq dg (IntKind.wrap .i64 (4 + ((bringI p.view 3)))))])).length) cap25)]) rfl (hB.range (i := 0) (m := 6) rfl rfl) row49 rfl) rfl ?_
     refine wlStore 1 (vs := [(.int .i64 nd), (.int .i64 1), (.int .i64 0), (.slice A11 (([baseI]).length) cap12), (.slice (some ⟨b20, 0, none⟩) 1 1), (.slice A24 (((qs ++ [(Stand.mk sq dg (IntKind.wrap .i64 (4 + ((bringI p.view 3)))))])).length) cap25)]) (cs := [(.int .i64 0), (.int .i64 0), (.int .i64 0), (.slice none 0 0), (.slice none 0 0), (.slice none 0 0)]) (cs' := [(.int .i64 nd), (.int .i64 1), (.int .i64 0), (.slice A11 (([baseI]).length) cap12), (.slice (some ⟨b20, 0, none⟩) 1 1), (.slice A24 (((qs ++ [(Stand.mk sq dg (IntKind.wrap .i64 (4 + ((bringI p.view 3)))))])).length) cap25)]) hC hB rfl rfl rfl sz49 rfl rfl rfl (by simp [Mark.cells, Stand.cells]) rfl rfl ?_; intro w hC hB
     replace hB : Bxs G w w0.heap.size ([(b13, 49, [(.int .i64 nd), (.int .i64 1), (.int .i64 0), (.slice A11 (([baseI]).length) cap12), (.slice (some ⟨b20, 0, none⟩) 1 1), (.slice A24 (((qs ++ [(Stand.mk sq dg (IntKind.wrap .i64 (4 + ((bringI p.view 3)))))])).length) cap25)]), (b7, 49, [(.int .i64 nd), (.int .i64 1), (.int .i64 0), (.slice A11 (([baseI]).length) cap12), (.slice (some ⟨b20, 0, none⟩) 1 1), (.slice A24 (((qs ++ [(Stand.mk sq dg (IntKind.wrap .i64 (4 + ((bringI p.view 3)))))])).length) cap25)]), (b6, 28, dg.cells), (b5, 46, [(.bool p.other), (.bool p.same), (.int .u8 (((p.b).toNat : Int))), (.int .i64 p.view), (.slice A3 p.proposed.length cap4)])] ++ (Option.toList o26 ++ [])) := hB
     refine wlThen ?_
     refine wcRet ?_
     obtain ⟨G, hg29, hC, hB, hs28⟩ := Ow.freeze' (bl := [(b13, 49, [(.int .i64 nd), (.int .i64 1), (.int .i64 0), (.slice A11 (([baseI]).length) cap12), (.slice (some ⟨b20, 0, none⟩) 1 1), (.slice A24 (((qs ++ [(Stand.mk sq dg (IntKind.wrap .i64 (4 + ((bringI p.view 3)))))])).length) cap25)]), (b7, 49, [(.int .i64 nd), (.int .i64 1), (.int .i64 0), (.slice A11 (([baseI]).length) cap12), (.slice (some ⟨b20, 0, none⟩) 1 1), (.slice A24 (((qs ++ [(Stand.mk sq dg (IntKind.wrap .i64 (4 + ((bringI p.view 3)))))])).length) cap25)]), (b6, 28, dg.cells), (b5, 46, [(.bool p.other), (.bool p.same), (.int .u8 (((p.b).toNat : Int))), (.int .i64 p.view), (.slice A3 p.proposed.length cap4)])]) (r := []) hO27 hC (Nat.le_refl _) hB (by have q := toldQ_len hq; simp [maxL]; omega)
     replace hs2 := hs2.mono hg29; replace r9 := r9.mono hg29; replace hs21 := hs21.mono hg29
     exact fun ac_ ha => hQ _ _ _ (results1 ha rfl ⟨_, _, [(.int .i64 nd), (.int .i64 1), (.int .i64 0), (.slice A11 (([baseI]).length) cap12), (.slice (some ⟨b20, 0, none⟩) 1 1), (.slice A24 (((qs ++ [(Stand.mk sq dg (IntKind.wrap .i64 (4 + ((bringI p.view 3)))))])).length) cap25)], rfl, row49, rfl, hB.range (i := 1) (m := 6) rfl rfl, rfl⟩) ha.df (endG hC (by rw [show toldI p nd sq dg kp = (Change.mk nd 1 0 ([baseI]) ([(Stand.mk sq dg (IntKind.wrap .i64 (4 + ((bringI p.view 3)))))]) ((qs ++ [(Stand.mk sq dg (IntKind.wrap .i64 (4 + ((bringI p.view 3)))))]))) from (by unfold toldI; rw [toldQ_end hq hk3 (by first | exact .inl h14 | exact .inr h14) hkl]; simp only [h15, h16, h17, Bool.and_true, Bool.and_false, Bool.true_and, Bool.false_and, Bool.not_true, Bool.not_false, Bool.or_true, Bool.true_or, Bool.or_false, cond_true, cond_false]; first | done | rfl | (exfalso; simp_all; done))]; exact ⟨_, rfl, (Change.mkIs (x := (Change.mk nd 1 0 ([baseI]) ([(Stand.mk sq dg (IntKind.wrap .i64 (4 + ((bringI p.view 3)))))]) ((qs ++ [(Stand.mk sq dg (IntKind.wrap .i64 (4 + ((bringI p.view 3)))))])))) r9 hs21 hs28)⟩))
   ·
    skip
    refine wlOff rfl rfl rfl rfl ?_
    refine wlOff rfl rfl rfl rfl ?_
    refine wlVal (opPickT rfl rfl) rfl ?_
    refine wlThen ?_
    refine wcCondT rfl ?_
    refine wcSeq (wcRegion ?_)
    refine wlVal (opMove rfl) rfl ?_
    refine wlVal (opFieldAddr rfl fo46_3) rfl ?_
    refine wlVal (opLoadOne (v := (.int .i64 p.view)) rfl (hB.cell (i := 3) rfl rfl) one3) rfl ?_
    refine wlCallS hC hB rfl co15 rfl rfl (bring_ret _ _ hC.holds p.view 3) ?_; intro w hk hC hB
    refine wlVal (opAdd rfl rfl) rfl ?_
    refine wlVal (opAssign rfl) rfl ?_
    refine wlThen (wcSeq (wcRegion ?_))
    refine wlVal (opMove rfl) rfl ?_
    refine wlVal (opLoadRow (cs := dg.cells) rfl (hB.range (i := 2) (m := 32) rfl (by simp [Mark.cells, Stand.cells])) row28 (by simp [Mark.cells, Stand.cells])) rfl ?_
    refine wlVal (opMove rfl) rfl ?_
    refine wlVal (opBuild (ps := [(0, .tmp 101), (1, .tmp 102), (2, .tmp 103)]) (cs := ((.int .i64 sq) :: (dg.cells ++ ((.int .i64 (IntKind.wrap .i64 (4 + ((bringI p.view 3))))) :: [])))) so58 zero58 rfl rfl (by simp [buildCells, Value.cells])) rfl ?_
    refine wlBuildSlice (α := Stand) (ps := [(0, .tmp 104)]) (xs := [(Stand.mk sq dg (IntKind.wrap .i64 (4 + ((bringI p.view 3)))))]) (rows := [((.int .i64 sq) :: (dg.cells ++ ((.int .i64 (IntKind.wrap .i64 (4 + ((bringI p.view 3))))) :: [])))]) elo47 rfl rfl hC hB rfl rfl rfl ⟨rfl, trivial⟩ rfl ?_; intro b30 G w hk hC hB hs31
    replace hs2 := hs2.mono hk.gle; replace r9 := r9.mono hk.gle; replace hOqs := hOqs.mono hk.gle
    refine wlVal (opFieldAddr rfl fo49_4) rfl ?_
    refine wlStore 0 (vs := [(.slice (some ⟨b30, 0, none⟩) 1 1)]) (cs := [(.int .i64 nd), (.int .i64 1), (.int .i64 0), (.slice A11 (([baseI]).length) cap12), (.slice none 0 0), (.slice qsA qs.length qsC)]) (cs' := [(.int .i64 nd), (.int .i64 1), (.int .i64 0), (.slice A11 (([baseI]).length) cap12), (.slice (some ⟨b30, 0, none⟩) 1 1), (.slice qsA qs.length qsC)]) hC hB rfl rfl rfl sz47 rfl rfl rfl (by simp [Mark.cells, Stand.cells]) rfl rfl ?_; intro w hC hB
    replace hB : Bxs G w w0.heap.size ([(b13, 49, [(.int .i64 nd), (.int .i64 1), (.int .i64 0), (.slice A11 (([baseI]).length) cap12), (.slice (some ⟨b30, 0, none⟩) 1 1), (.slice qsA qs.length qsC)]), (b7, 49, [(.int .i64 0), (.int .i64 0), (.int .i64 0), (.slice none 0 0), (.slice none 0 0), (.slice none 0 0)]), (b6, 28, dg.cells), (b5, 46, [(.bool p.other), (.bool p.same), (.int .u8 (((p.b).toNat : Int))), (.int .i64 p.view), (.slice A3 p.proposed.length cap4)])] ++ (Option.toList qsO ++ [])) := hB
    refine wlThen (wcRegion ?_)
    refine wlVal (opFieldAddr rfl fo49_5) rfl ?_
    refine wlVal (opLoadOne (v := (.slice qsA qs.length qsC)) rfl (hB.cell (i := 0) rfl rfl) one47) rfl ?_
    refine wlVal (opMove rfl) rfl ?_
    refine wlVal (opLoadRow (cs := dg.cells) rfl (hB.range (i := 2) (m := 32) rfl (by simp [Mark.cells, Stand.cells])) row28 (by simp [Mark.cells, Stand.cells])) rfl ?_
    refine wlVal (opMove rfl) rfl ?_
    refine wlVal (opBuild (ps := [(0, .tmp 109), (1, .tmp 110), (2, .tmp 111)]) (cs := ((.int .i64 sq) :: (dg.cells ++ ((.int .i64 (IntKind.wrap .i64 (4 + ((bringI p.view 3))))) :: [])))) so58 zero58 rfl rfl (by simp [buildCells, Value.cells])) rfl ?_
    refine wlBuildSlice (α := Stand) (ps := [(0, .tmp 112)]) (xs := [(Stand.mk sq dg (IntKind.wrap .i64 (4 + ((bringI p.view 3)))))]) (rows := [((.int .i64 sq) :: (dg.cells ++ ((.int .i64 (IntKind.wrap .i64 (4 + ((bringI p.view 3))))) :: [])))]) elo47 rfl rfl hC hB rfl rfl rfl ⟨rfl, trivial⟩ rfl ?_; intro b32 G w hk hC hB hs33
    replace hs2 := hs2.mono hk.gle; replace r9 := r9.mono hk.gle; replace hOqs := hOqs.mono hk.gle; replace hs31 := hs31.mono hk.gle
    refine wlAppend (α := Stand) (bl := [(b13, 49, [(.int .i64 nd), (.int .i64 1), (.int .i64 0), (.slice A11 (([baseI]).length) cap12), (.slice (some ⟨b30, 0, none⟩) 1 1), (.slice qsA qs.length qsC)]), (b7, 49, [(.int .i64 0), (.int .i64 0), (.int .i64 0), (.slice none 0 0), (.slice none 0 0), (.slice none 0 0)]), (b6, 28, dg.cells), (b5, 46, [(.bool p.other), (.bool p.same), (.int .u8 (((p.b).toNat : Int))), (.int .i64 p.view), (.slice A3 p.proposed.length cap4)])]) (o := qsO) (r := []) elo47 hC hB rfl rfl hOqs hs33 (by have q := toldQ_len hq; simp; omega) rfl rfl ?_; intro A34 cap35 o36 w hC hB hO37
    refine wlVal (opFieldAddr rfl fo49_5) rfl ?_
    refine wlStore 0 (vs := [(.slice A34 (((qs ++ [(Stand.mk sq dg (IntKind.wrap .i64 (4 + ((bringI p.view 3)))))])).length) cap35)]) (cs := [(.int .i64 nd), (.int .i64 1), (.int .i64 0), (.slice A11 (([baseI]).length) cap12), (.slice (some ⟨b30, 0, none⟩) 1 1), (.slice qsA qs.length qsC)]) (cs' := [(.int .i64 nd), (.int .i64 1), (.int .i64 0), (.slice A11 (([baseI]).length) cap12), (.slice (some ⟨b30, 0, none⟩) 1 1), (.slice A34 (((qs ++ [(Stand.mk sq dg (IntKind.wrap .i64 (4 + ((bringI p.view 3)))))])).length) cap35)]) hC hB rfl rfl rfl sz47 rfl rfl rfl (by simp [Mark.cells, Stand.cells]) rfl rfl ?_; intro w hC hB
    replace hB : Bxs G w w0.heap.size ([(b13, 49, [(.int .i64 nd), (.int .i64 1), (.int .i64 0), (.slice A11 (([baseI]).length) cap12), (.slice (some ⟨b30, 0, none⟩) 1 1), (.slice A34 (((qs ++ [(Stand.mk sq dg (IntKind.wrap .i64 (4 + ((bringI p.view 3)))))])).length) cap35)]), (b7, 49, [(.int .i64 0), (.int .i64 0), (.int .i64 0), (.slice none 0 0), (.slice none 0 0), (.slice none 0 0)]), (b6, 28, dg.cells), (b5, 46, [(.bool p.other), (.bool p.same), (.int .u8 (((p.b).toNat : Int))), (.int .i64 p.view), (.slice A3 p.proposed.length cap4)])] ++ (Option.toList o36 ++ [])) := hB
    refine wlThen (wcSeq (wcRegion ?_))
    refine wlVal (opLoadRow (cs := [(.int .i64 nd), (.int .i64 1), (.int .i64 0), (.slice A11 (([baseI]).length) cap12), (.slice (some ⟨b30, 0, none⟩) 1 1), (.slice A34 (((qs ++ [(Stand.mk sq dg (IntKind.wrap .i64 (4 + ((bringI p.view 3)))))])).length) cap35)]) rfl (hB.range (i := 0) (m := 6) rfl rfl) row49 rfl) rfl ?_
    refine wlStore 1 (vs := [(.int .i64 nd), (.int .i64 1), (.int .i64 0), (.slice A11 (([baseI]).length) cap12), (.slice (some ⟨b30, 0, none⟩) 1 1), (.slice A34 (((qs ++ [(Stand.mk sq dg (IntKind.wrap .i64 (4 + ((bringI p.view 3)))))])).length) cap35)]) (cs := [(.int .i64 0), (.int .i64 0), (.int .i64 0), (.slice none 0 0), (.slice none 0 0), (.slice none 0 0)]) (cs' := [(.int .i64 nd), (.int .i64 1), (.int .i64 0), (.slice A11 (([baseI]).length) cap12), (.slice (some ⟨b30, 0, none⟩) 1 1), (.slice A34 (((qs ++ [(Stand.mk sq dg (IntKind.wrap .i64 (4 + ((bringI p.view 3)))))])).length) cap35)]) hC hB rfl rfl rfl sz49 rfl rfl rfl (by simp [Mark.cells, Stand.cells]) rfl rfl ?_; intro w hC hB
    replace hB : Bxs G w w0.heap.size ([(b13, 49, [(.int .i64 nd), (.int .i64 1), (.int .i64 0), (.slice A11 (([baseI]).length) cap12), (.slice (some ⟨b30, 0, none⟩) 1 1), (.slice A34 (((qs ++ [(Stand.mk sq dg (IntKind.wrap .i64 (4 + ((bringI p.view 3)))))])).length) cap35)]), (b7, 49, [(.int .i64 nd), (.int .i64 1), (.int .i64 0), (.slice A11 (([baseI]).length) cap12), (.slice (some ⟨b30, 0, none⟩) 1 1), (.slice A34 (((qs ++ [(Stand.mk sq dg (IntKind.wrap .i64 (4 + ((bringI p.view 3)))))])).length) cap35)]), (b6, 28, dg.cells), (b5, 46, [(.bool p.other), (.bool p.same), (.int .u8 (((p.b).toNat : Int))), (.int .i64 p.view), (.slice A3 p.proposed.length cap4)])] ++ (Option.toList o36 ++ [])) := hB
    refine wlThen ?_
    refine wcRet ?_
    obtain ⟨G, hg39, hC, hB, hs38⟩ := Ow.freeze' (bl := [(b13, 49, [(.int .i64 nd), (.int .i64 1), (.int .i64 0), (.slice A11 (([baseI]).length) cap12), (.slice (some ⟨b30, 0, none⟩) 1 1), (.slice A34 (((qs ++ [(Stand.mk sq dg (IntKind.wrap .i64 (4 + ((bringI p.view 3)))))])).length) cap35)]), (b7, 49, [(.int .i64 nd), (.int .i64 1), (.int .i64 0), (.slice A11 (([baseI]).length) cap12), (.slice (some ⟨b30, 0, none⟩) 1 1), (.slice A34 (((qs ++ [(Stand.mk sq dg (IntKind.wrap .i64 (4 + ((bringI p.view 3)))))])).length) cap35)]), (b6, 28, dg.cells), (b5, 46, [(.bool p.other), (.bool p.same), (.int .u8 (((p.b).toNat : Int))), (.int .i64 p.view), (.slice A3 p.proposed.length cap4)])]) (r := []) hO37 hC (Nat.le_refl _) hB (by have q := toldQ_len hq; simp [maxL]; omega)
    replace hs2 := hs2.mono hg39; replace r9 := r9.mono hg39; replace hs31 := hs31.mono hg39
    exact fun ac_ ha => hQ _ _ _ (results1 ha rfl ⟨_, _, [(.int .i64 nd), (.int .i64 1), (.int .i64 0), (.slice A11 (([baseI]).length) cap12), (.slice (some ⟨b30, 0, none⟩) 1 1), (.slice A34 (((qs ++ [(Stand.mk sq dg (IntKind.wrap .i64 (4 + ((bringI p.view 3)))))])).length) cap35)], rfl, row49, rfl, hB.range (i := 1) (m := 6) rfl rfl, rfl⟩) ha.df (endG hC (by rw [show toldI p nd sq dg kp = (Change.mk nd 1 0 ([baseI]) ([(Stand.mk sq dg (IntKind.wrap .i64 (4 + ((bringI p.view 3)))))]) ((qs ++ [(Stand.mk sq dg (IntKind.wrap .i64 (4 + ((bringI p.view 3)))))]))) from (by unfold toldI; rw [toldQ_end hq hk3 (by first | exact .inl h14 | exact .inr h14) hkl]; simp only [h15, h16, Bool.and_true, Bool.and_false, Bool.true_and, Bool.false_and, Bool.not_true, Bool.not_false, Bool.or_true, Bool.true_or, Bool.or_false, cond_true, cond_false]; first | done | rfl | (exfalso; simp_all; done))]; exact ⟨_, rfl, (Change.mkIs (x := (Change.mk nd 1 0 ([baseI]) ([(Stand.mk sq dg (IntKind.wrap .i64 (4 + ((bringI p.view 3)))))]) ((qs ++ [(Stand.mk sq dg (IntKind.wrap .i64 (4 + ((bringI p.view 3)))))])))) r9 hs31 hs38)⟩))
  ·
   skip
   refine wlOn rfl rfl ?_
   refine wlVal (opMove rfl) rfl ?_
   refine wlOn rfl rfl ?_
   refine wlVal (opNot rfl) rfl ?_
   refine wlVal (opPickT rfl rfl) rfl ?_
   refine wlVal (opMove rfl) rfl ?_
   cases h40 : kp
   ·
    skip
    refine wlOn rfl rfl ?_
    refine wlVal (opFieldAddr rfl fo46_1) rfl ?_
    refine wlOn rfl rfl ?_
    refine wlVal (opLoadOne (v := (.bool p.same)) rfl (hB.cell (i := 3) rfl rfl) one4) rfl ?_
    refine wlOn rfl rfl ?_
    refine wlVal (opNot rfl) rfl ?_
    refine wlVal (opPickT rfl rfl) rfl ?_
    refine wlThen ?_
    cases h41 : p.same
    ·
     skip
     refine wcCondT rfl ?_
     refine wcSeq (wcRegion ?_)
     refine wlVal (opFieldAddr rfl fo46_3) rfl ?_
     refine wlVal (opLoadOne (v := (.int .i64 p.view)) rfl (hB.cell (i := 3) rfl rfl) one3) rfl ?_
     refine wlVal (opMove rfl) rfl ?_
     refine wlCallS hC hB rfl co15 rfl rfl (bring_ret _ _ hC.holds p.view 4) ?_; intro w hk hC hB
     refine wlVal (opAssign rfl) rfl ?_
     refine wlThen (wcRegion ?_)
     refine wlVal (opMove rfl) rfl ?_
     refine wlVal (opFieldAddr rfl fo46_2) rfl ?_
     refine wlVal (opLoadOne (v := (.int .u8 (((p.b).toNat : Int)))) rfl (hB.cell (i := 3) rfl rfl) one5) rfl ?_
     refine wlVal (opAndU8 (a := p.b) (b := (7 : UInt8)) rfl rfl) rfl ?_
     refine wlVal (opAddU8 (a := (100 : UInt8)) (b := (p.b &&& (7 : UInt8))) rfl rfl) rfl ?_
     refine wlCallS hC hB rfl co16 rfl rfl (digest_ret _ _ hC.holds (((100 : UInt8) + (p.b &&& (7 : UInt8))))) ?_; intro w hk hC hB
     refine wlVal (opMove rfl) rfl ?_
     refine wlVal (opBuild (ps := [(0, .tmp 81), (1, .tmp 86), (2, .tmp 87)]) (cs := ((.int .i64 sq) :: (((digI (((100 : UInt8) + (p.b &&& (7 : UInt8)))))).cells ++ ((.int .i64 (((bringI p.view 4)))) :: [])))) so58 zero58 rfl rfl (by simp [buildCells, Value.cells])) rfl ?_
     refine wlBuildSlice (α := Stand) (ps := [(0, .tmp 88)]) (xs := [(Stand.mk sq ((digI (((100 : UInt8) + (p.b &&& (7 : UInt8)))))) (((bringI p.view 4))))]) (rows := [((.int .i64 sq) :: (((digI (((100 : UInt8) + (p.b &&& (7 : UInt8)))))).cells ++ ((.int .i64 (((bringI p.view 4)))) :: [])))]) elo47 rfl rfl hC hB rfl rfl rfl ⟨rfl, trivial⟩ rfl ?_; intro b42 G w hk hC hB hs43
     replace hs2 := hs2.mono hk.gle; replace r9 := r9.mono hk.gle; replace hOqs := hOqs.mono hk.gle
     refine wlVal (opFieldAddr rfl fo49_4) rfl ?_
     refine wlStore 0 (vs := [(.slice (some ⟨b42, 0, none⟩) 1 1)]) (cs := [(.int .i64 nd), (.int .i64 1), (.int .i64 0), (.slice A11 (([baseI]).length) cap12), (.slice none 0 0), (.slice qsA qs.length qsC)]) (cs' := [(.int .i64 nd), (.int .i64 1), (.int .i64 0), (.slice A11 (([baseI]).length) cap12), (.slice (some ⟨b42, 0, none⟩) 1 1), (.slice qsA qs.length qsC)]) hC hB rfl rfl rfl sz47 rfl rfl rfl (by simp [Mark.cells, Stand.cells]) rfl rfl ?_; intro w hC hB
     replace hB : Bxs G w w0.heap.size ([(b13, 49, [(.int .i64 nd), (.int .i64 1), (.int .i64 0), (.slice A11 (([baseI]).length) cap12), (.slice (some ⟨b42, 0, none⟩) 1 1), (.slice qsA qs.length qsC)]), (b7, 49, [(.int .i64 0), (.int .i64 0), (.int .i64 0), (.slice none 0 0), (.slice none 0 0), (.slice none 0 0)]), (b6, 28, dg.cells), (b5, 46, [(.bool p.other), (.bool p.same), (.int .u8 (((p.b).toNat : Int))), (.int .i64 p.view), (.slice A3 p.proposed.length cap4)])] ++ (Option.toList qsO ++ [])) := hB
     refine wlThen (wcSeq (wcSeq (wcRegion ?_)))
     refine wlVal (opMove rfl) rfl ?_
     refine wlVal (opMove rfl) rfl ?_
     refine wlOn rfl rfl ?_
     refine wlVal (opFieldAddr rfl fo46_1) rfl ?_
     refine wlOn rfl rfl ?_
     refine wlVal (opLoadOne (v := (.bool p.same)) rfl (hB.cell (i := 3) rfl rfl) one4) rfl ?_
     refine wlVal (opPickF rfl rfl) rfl ?_
     refine wlThen ?_
     cases h44 : p.same
     ·
      skip
      refine wcCondF rfl ?_
      refine wcSkip ?_
      refine wcOf ?_
      refine wcSeq (wcRegion ?_)
      refine wlVal (opLoadRow (cs := [(.int .i64 nd), (.int .i64 1), (.int .i64 0), (.slice A11 (([baseI]).length) cap12), (.slice (some ⟨b42, 0, none⟩) 1 1), (.slice qsA qs.length qsC)]) rfl (hB.range (i := 0) (m := 6) rfl rfl) row49 rfl) rfl ?_
      refine wlStore 1 (vs := [(.int .i64 nd), (.int .i64 1), (.int .i64 0), (.slice A11 (([baseI]).length) cap12), (.slice (some ⟨b42, 0, none⟩) 1 1), (.slice qsA qs.length qsC)]) (cs := [(.int .i64 0), (.int .i64 0), (.int .i64 0), (.slice none 0 0), (.slice none 0 0), (.slice none 0 0)]) (cs' := [(.int .i64 nd), (.int .i64 1), (.int .i64 0), (.slice A11 (([baseI]).length) cap12), (.slice (some ⟨b42, 0, none⟩) 1 1), (.slice qsA qs.length qsC)]) hC hB rfl rfl rfl sz49 rfl rfl rfl (by simp [Mark.cells, Stand.cells]) rfl rfl ?_; intro w hC hB
      replace hB : Bxs G w w0.heap.size ([(b13, 49, [(.int .i64 nd), (.int .i64 1), (.int .i64 0), (.slice A11 (([baseI]).length) cap12), (.slice (some ⟨b42, 0, none⟩) 1 1), (.slice qsA qs.length qsC)]), (b7, 49, [(.int .i64 nd), (.int .i64 1), (.int .i64 0), (.slice A11 (([baseI]).length) cap12), (.slice (some ⟨b42, 0, none⟩) 1 1), (.slice qsA qs.length qsC)]), (b6, 28, dg.cells), (b5, 46, [(.bool p.other), (.bool p.same), (.int .u8 (((p.b).toNat : Int))), (.int .i64 p.view), (.slice A3 p.proposed.length cap4)])] ++ (Option.toList qsO ++ [])) := hB
      refine wlThen ?_
      refine wcRet ?_
      obtain ⟨G, hg46, hC, hB, hs45⟩ := Ow.freeze' (bl := [(b13, 49, [(.int .i64 nd), (.int .i64 1), (.int .i64 0), (.slice A11 (([baseI]).length) cap12), (.slice (some ⟨b42, 0, none⟩) 1 1), (.slice qsA qs.length qsC)]), (b7, 49, [(.int .i64 nd), (.int .i64 1), (.int .i64 0), (.slice A11 (([baseI]).length) cap12), (.slice (some ⟨b42, 0, none⟩) 1 1), (.slice qsA qs.length qsC)]), (b6, 28, dg.cells), (b5, 46, [(.bool p.other), (.bool p.same), (.int .u8 (((p.b).toNat : Int))), (.int .i64 p.view), (.slice A3 p.proposed.length cap4)])]) (r := []) hOqs hC (Nat.le_refl _) hB (by have q := toldQ_len hq; simp [maxL]; omega)
      replace hs2 := hs2.mono hg46; replace r9 := r9.mono hg46; replace hs43 := hs43.mono hg46
      exact fun ac_ ha => hQ _ _ _ (results1 ha rfl ⟨_, _, [(.int .i64 nd), (.int .i64 1), (.int .i64 0), (.slice A11 (([baseI]).length) cap12), (.slice (some ⟨b42, 0, none⟩) 1 1), (.slice qsA qs.length qsC)], rfl, row49, rfl, hB.range (i := 1) (m := 6) rfl rfl, rfl⟩) ha.df (endG hC (by rw [show toldI p nd sq dg kp = (Change.mk nd 1 0 ([baseI]) ([(Stand.mk sq ((digI (((100 : UInt8) + (p.b &&& (7 : UInt8)))))) (((bringI p.view 4))))]) qs) from (by unfold toldI; rw [toldQ_end hq hk3 (by first | exact .inl h14 | exact .inr h14) hkl]; simp only [h15, h40, h41, h44, Bool.and_true, Bool.and_false, Bool.true_and, Bool.false_and, Bool.not_true, Bool.not_false, Bool.or_true, Bool.true_or, Bool.or_false, cond_true, cond_false]; first | done | rfl | (exfalso; simp_all; done))]; exact ⟨_, rfl, (Change.mkIs (x := (Change.mk nd 1 0 ([baseI]) ([(Stand.mk sq ((digI (((100 : UInt8) + (p.b &&& (7 : UInt8)))))) (((bringI p.view 4))))]) qs)) r9 hs43 hs45)⟩))
     ·
      skip
      refine wcCondT rfl ?_
      refine wcSeq (wcRegion ?_)
      refine wlVal (opMove rfl) rfl ?_
      refine wlVal (opFieldAddr rfl fo46_3) rfl ?_
      refine wlVal (opLoadOne (v := (.int .i64 p.view)) rfl (hB.cell (i := 3) rfl rfl) one3) rfl ?_
      refine wlCallS hC hB rfl co15 rfl rfl (bring_ret _ _ hC.holds p.view 3) ?_; intro w hk hC hB
      refine wlVal (opAdd rfl rfl) rfl ?_
      refine wlVal (opAssign rfl) rfl ?_
      refine wlThen (wcSeq (wcRegion ?_))
      refine wlVal (opMove rfl) rfl ?_
      refine wlVal (opLoadRow (cs := dg.cells) rfl (hB.range (i := 2) (m := 32) rfl (by simp [Mark.cells, Stand.cells])) row28 (by simp [Mark.cells, Stand.cells])) rfl ?_
      refine wlVal (opMove rfl) rfl ?_
      refine wlVal (opBuild (ps := [(0, .tmp 101), (1, .tmp 102), (2, .tmp 103)]) (cs := ((.int .i64 sq) :: (dg.cells ++ ((.int .i64 (IntKind.wrap .i64 (4 + ((bringI p.view 3))))) :: [])))) so58 zero58 rfl rfl (by simp [buildCells, Value.cells])) rfl ?_
      refine wlBuildSlice (α := Stand) (ps := [(0, .tmp 104)]) (xs := [(Stand.mk sq dg (IntKind.wrap .i64 (4 + ((bringI p.view 3)))))]) (rows := [((.int .i64 sq) :: (dg.cells ++ ((.int .i64 (IntKind.wrap .i64 (4 + ((bringI p.view 3))))) :: [])))]) elo47 rfl rfl hC hB rfl rfl rfl ⟨rfl, trivial⟩ rfl ?_; intro b47 G w hk hC hB hs48
      replace hs2 := hs2.mono hk.gle; replace r9 := r9.mono hk.gle; replace hOqs := hOqs.mono hk.gle
      refine wlVal (opFieldAddr rfl fo49_4) rfl ?_
      refine wlStore 0 (vs := [(.slice (some ⟨b47, 0, none⟩) 1 1)]) (cs := [(.int .i64 nd), (.int .i64 1), (.int .i64 0), (.slice A11 (([baseI]).length) cap12), (.slice (some ⟨b42, 0, none⟩) 1 1), (.slice qsA qs.length qsC)]) (cs' := [(.int .i64 nd), (.int .i64 1), (.int .i64 0), (.slice A11 (([baseI]).length) cap12), (.slice (some ⟨b47, 0, none⟩) 1 1), (.slice qsA qs.length qsC)]) hC hB rfl rfl rfl sz47 rfl rfl rfl (by simp [Mark.cells, Stand.cells]) rfl rfl ?_; intro w hC hB
      replace hB : Bxs G w w0.heap.size ([(b13, 49, [(.int .i64 nd), (.int .i64 1), (.int .i64 0), (.slice A11 (([baseI]).length) cap12), (.slice (some ⟨b47, 0, none⟩) 1 1), (.slice qsA qs.length qsC)]), (b7, 49, [(.int .i64 0), (.int .i64 0), (.int .i64 0), (.slice none 0 0), (.slice none 0 0), (.slice none 0 0)]), (b6, 28, dg.cells), (b5, 46, [(.bool p.other), (.bool p.same), (.int .u8 (((p.b).toNat : Int))), (.int .i64 p.view), (.slice A3 p.proposed.length cap4)])] ++ (Option.toList qsO ++ [])) := hB
      refine wlThen (wcRegion ?_)
      refine wlVal (opFieldAddr rfl fo49_5) rfl ?_
      refine wlVal (opLoadOne (v := (.slice qsA qs.length qsC)) rfl (hB.cell (i := 0) rfl rfl) one47) rfl ?_
      refine wlVal (opMove rfl) rfl ?_
      refine wlVal (opLoadRow (cs := dg.cells) rfl (hB.range (i := 2) (m := 32) rfl (by simp [Mark.cells, Stand.cells])) row28 (by simp [Mark.cells, Stand.cells])) rfl ?_
      refine wlVal (opMove rfl) rfl ?_
      refine wlVal (opBuild (ps := [(0, .tmp 109), (1, .tmp 110), (2, .tmp 111)]) (cs := ((.int .i64 sq) :: (dg.cells ++ ((.int .i64 (IntKind.wrap .i64 (4 + ((bringI p.view 3))))) :: [])))) so58 zero58 rfl rfl (by simp [buildCells, Value.cells])) rfl ?_
      refine wlBuildSlice (α := Stand) (ps := [(0, .tmp 112)]) (xs := [(Stand.mk sq dg (IntKind.wrap .i64 (4 + ((bringI p.view 3)))))]) (rows := [((.int .i64 sq) :: (dg.cells ++ ((.int .i64 (IntKind.wrap .i64 (4 + ((bringI p.view 3))))) :: [])))]) elo47 rfl rfl hC hB rfl rfl rfl ⟨rfl, trivial⟩ rfl ?_; intro b49 G w hk hC hB hs50
      replace hs2 := hs2.mono hk.gle; replace r9 := r9.mono hk.gle; replace hOqs := hOqs.mono hk.gle; replace hs48 := hs48.mono hk.gle
      refine wlAppend (α := Stand) (bl := [(b13, 49, [(.int .i64 nd), (.int .i64 1), (.int .i64 0), (.slice A11 (([baseI]).length) cap12), (.slice (some ⟨b47, 0, none⟩) 1 1), (.slice qsA qs.length qsC)]), (b7, 49, [(.int .i64 0), (.int .i64 0), (.int .i64 0), (.slice none 0 0), (.slice none 0 0), (.slice none 0 0)]), (b6, 28, dg.cells), (b5, 46, [(.bool p.other), (.bool p.same), (.int .u8 (((p.b).toNat : Int))), (.int .i64 p.view), (.slice A3 p.proposed.length cap4)])]) (o := qsO) (r := []) elo47 hC hB rfl rfl hOqs hs50 (by have q := toldQ_len hq; simp; omega) rfl rfl ?_; intro A51 cap52 o53 w hC hB hO54
      refine wlVal (opFieldAddr rfl fo49_5) rfl ?_
      refine wlStore 0 (vs := [(.slice A51 (((qs ++ [(Stand.mk sq dg (IntKind.wrap .i64 (4 + ((bringI p.view 3)))))])).length) cap52)]) (cs := [(.int .i64 nd), (.int .i64 1), (.int .i64 0), (.slice A11 (([baseI]).length) cap12), (.slice (some ⟨b47, 0, none⟩) 1 1), (.slice qsA qs.length qsC)]) (cs' := [(.int .i64 nd), (.int .i64 1), (.int .i64 0), (.slice A11 (([baseI]).length) cap12), (.slice (some ⟨b47, 0, none⟩) 1 1), (.slice A51 (((qs ++ [(Stand.mk sq dg (IntKind.wrap .i64 (4 + ((bringI p.view 3)))))])).length) cap52)]) hC hB rfl rfl rfl sz47 rfl rfl rfl (by simp [Mark.cells, Stand.cells]) rfl rfl ?_; intro w hC hB
      replace hB : Bxs G w w0.heap.size ([(b13, 49, [(.int .i64 nd), (.int .i64 1), (.int .i64 0), (.slice A11 (([baseI]).length) cap12), (.slice (some ⟨b47, 0, none⟩) 1 1), (.slice A51 (((qs ++ [(Stand.mk sq dg (IntKind.wrap .i64 (4 + ((bringI p.view 3)))))])).length) cap52)]), (b7, 49, [(.int .i64 0), (.int .i64 0), (.int .i64 0), (.slice none 0 0), (.slice none 0 0), (.slice none 0 0)]), (b6, 28, dg.cells), (b5, 46, [(.bool p.other), (.bool p.same), (.int .u8 (((p.b).toNat : Int))), (.int .i64 p.view), (.slice A3 p.proposed.length cap4)])] ++ (Option.toList o53 ++ [])) := hB
      refine wlThen (wcSeq (wcRegion ?_))
      refine wlVal (opLoadRow (cs := [(.int .i64 nd), (.int .i64 1), (.int .i64 0), (.slice A11 (([baseI]).length) cap12), (.slice (some ⟨b47, 0, none⟩) 1 1), (.slice A51 (((qs ++ [(Stand.mk sq dg (IntKind.wrap .i64 (4 + ((bringI p.view 3)))))])).length) cap52)]) rfl (hB.range (i := 0) (m := 6) rfl rfl) row49 rfl) rfl ?_
      refine wlStore 1 (vs := [(.int .i64 nd), (.int .i64 1), (.int .i64 0), (.slice A11 (([baseI]).length) cap12), (.slice (some ⟨b47, 0, none⟩) 1 1), (.slice A51 (((qs ++ [(Stand.mk sq dg (IntKind.wrap .i64 (4 + ((bringI p.view 3)))))])).length) cap52)]) (cs := [(.int .i64 0), (.int .i64 0), (.int .i64 0), (.slice none 0 0), (.slice none 0 0), (.slice none 0 0)]) (cs' := [(.int .i64 nd), (.int .i64 1), (.int .i64 0), (.slice A11 (([baseI]).length) cap12), (.slice (some ⟨b47, 0, none⟩) 1 1), (.slice A51 (((qs ++ [(Stand.mk sq dg (IntKind.wrap .i64 (4 + ((bringI p.view 3)))))])).length) cap52)]) hC hB rfl rfl rfl sz49 rfl rfl rfl (by simp [Mark.cells, Stand.cells]) rfl rfl ?_; intro w hC hB
      replace hB : Bxs G w w0.heap.size ([(b13, 49, [(.int .i64 nd), (.int .i64 1), (.int .i64 0), (.slice A11 (([baseI]).length) cap12), (.slice (some ⟨b47, 0, none⟩) 1 1), (.slice A51 (((qs ++ [(Stand.mk sq dg (IntKind.wrap .i64 (4 + ((bringI p.view 3)))))])).length) cap52)]), (b7, 49, [(.int .i64 nd), (.int .i64 1), (.int .i64 0), (.slice A11 (([baseI]).length) cap12), (.slice (some ⟨b47, 0, none⟩) 1 1), (.slice A51 (((qs ++ [(Stand.mk sq dg (IntKind.wrap .i64 (4 + ((bringI p.view 3)))))])).length) cap52)]), (b6, 28, dg.cells), (b5, 46, [(.bool p.other), (.bool p.same), (.int .u8 (((p.b).toNat : Int))), (.int .i64 p.view), (.slice A3 p.proposed.length cap4)])] ++ (Option.toList o53 ++ [])) := hB
      refine wlThen ?_
      refine wcRet ?_
      obtain ⟨G, hg56, hC, hB, hs55⟩ := Ow.freeze' (bl := [(b13, 49, [(.int .i64 nd), (.int .i64 1), (.int .i64 0), (.slice A11 (([baseI]).length) cap12), (.slice (some ⟨b47, 0, none⟩) 1 1), (.slice A51 (((qs ++ [(Stand.mk sq dg (IntKind.wrap .i64 (4 + ((bringI p.view 3)))))])).length) cap52)]), (b7, 49, [(.int .i64 nd), (.int .i64 1), (.int .i64 0), (.slice A11 (([baseI]).length) cap12), (.slice (some ⟨b47, 0, none⟩) 1 1), (.slice A51 (((qs ++ [(Stand.mk sq dg (IntKind.wrap .i64 (4 + ((bringI p.view 3)))))])).length) cap52)]), (b6, 28, dg.cells), (b5, 46, [(.bool p.other), (.bool p.same), (.int .u8 (((p.b).toNat : Int))), (.int .i64 p.view), (.slice A3 p.proposed.length cap4)])]) (r := []) hO54 hC (Nat.le_refl _) hB (by have q := toldQ_len hq; simp [maxL]; omega)
      replace hs2 := hs2.mono hg56; replace r9 := r9.mono hg56; replace hs48 := hs48.mono hg56
      exact fun ac_ ha => hQ _ _ _ (results1 ha rfl ⟨_, _, [(.int .i64 nd), (.int .i64 1), (.int .i64 0), (.slice A11 (([baseI]).length) cap12), (.slice (some ⟨b47, 0, none⟩) 1 1), (.slice A51 (((qs ++ [(Stand.mk sq dg (IntKind.wrap .i64 (4 + ((bringI p.view 3)))))])).length) cap52)], rfl, row49, rfl, hB.range (i := 1) (m := 6) rfl rfl, rfl⟩) ha.df (endG hC (by rw [show toldI p nd sq dg kp = (Change.mk nd 1 0 ([baseI]) ([(Stand.mk sq dg (IntKind.wrap .i64 (4 + ((bringI p.view 3)))))]) ((qs ++ [(Stand.mk sq dg (IntKind.wrap .i64 (4 + ((bringI p.view 3)))))]))) from (by unfold toldI; rw [toldQ_end hq hk3 (by first | exact .inl h14 | exact .inr h14) hkl]; simp only [h15, h40, h41, h44, Bool.and_true, Bool.and_false, Bool.true_and, Bool.false_and, Bool.not_true, Bool.not_false, Bool.or_true, Bool.true_or, Bool.or_false, cond_true, cond_false]; first | done | rfl | (exfalso; simp_all; done))]; exact ⟨_, rfl, (Change.mkIs (x := (Change.mk nd 1 0 ([baseI]) ([(Stand.mk sq dg (IntKind.wrap .i64 (4 + ((bringI p.view 3)))))]) ((qs ++ [(Stand.mk sq dg (IntKind.wrap .i64 (4 + ((bringI p.view 3)))))])))) r9 hs48 hs55)⟩))
    ·
     skip
     refine wcCondF rfl ?_
     refine wcSkip ?_
     refine wcOf ?_
     refine wcSeq (wcSeq (wcRegion ?_))
     refine wlVal (opMove rfl) rfl ?_
     refine wlVal (opMove rfl) rfl ?_
     refine wlOn rfl rfl ?_
     refine wlVal (opFieldAddr rfl fo46_1) rfl ?_
     refine wlOn rfl rfl ?_
     refine wlVal (opLoadOne (v := (.bool p.same)) rfl (hB.cell (i := 3) rfl rfl) one4) rfl ?_
     refine wlVal (opPickF rfl rfl) rfl ?_
     refine wlThen ?_
     cases h57 : p.same
     ·
      skip
      refine wcCondF rfl ?_
      refine wcSkip ?_
      refine wcOf ?_
      refine wcSeq (wcRegion ?_)
      refine wlVal (opLoadRow (cs := [(.int .i64 nd), (.int .i64 1), (.int .i64 0), (.slice A11 (([baseI]).length) cap12), (.slice none 0 0), (.slice qsA qs.length qsC)]) rfl (hB.range (i := 0) (m := 6) rfl rfl) row49 rfl) rfl ?_
      refine wlStore 1 (vs := [(.int .i64 nd), (.int .i64 1), (.int .i64 0), (.slice A11 (([baseI]).length) cap12), (.slice none 0 0), (.slice qsA qs.length qsC)]) (cs := [(.int .i64 0), (.int .i64 0), (.int .i64 0), (.slice none 0 0), (.slice none 0 0), (.slice none 0 0)]) (cs' := [(.int .i64 nd), (.int .i64 1), (.int .i64 0), (.slice A11 (([baseI]).length) cap12), (.slice none 0 0), (.slice qsA qs.length qsC)]) hC hB rfl rfl rfl sz49 rfl rfl rfl (by simp [Mark.cells, Stand.cells]) rfl rfl ?_; intro w hC hB
      replace hB : Bxs G w w0.heap.size ([(b13, 49, [(.int .i64 nd), (.int .i64 1), (.int .i64 0), (.slice A11 (([baseI]).length) cap12), (.slice none 0 0), (.slice qsA qs.length qsC)]), (b7, 49, [(.int .i64 nd), (.int .i64 1), (.int .i64 0), (.slice A11 (([baseI]).length) cap12), (.slice none 0 0), (.slice qsA qs.length qsC)]), (b6, 28, dg.cells), (b5, 46, [(.bool p.other), (.bool p.same), (.int .u8 (((p.b).toNat : Int))), (.int .i64 p.view), (.slice A3 p.proposed.length cap4)])] ++ (Option.toList qsO ++ [])) := hB
      refine wlThen ?_
      refine wcRet ?_
      obtain ⟨G, hg59, hC, hB, hs58⟩ := Ow.freeze' (bl := [(b13, 49, [(.int .i64 nd), (.int .i64 1), (.int .i64 0), (.slice A11 (([baseI]).length) cap12), (.slice none 0 0), (.slice qsA qs.length qsC)]), (b7, 49, [(.int .i64 nd), (.int .i64 1), (.int .i64 0), (.slice A11 (([baseI]).length) cap12), (.slice none 0 0), (.slice qsA qs.length qsC)]), (b6, 28, dg.cells), (b5, 46, [(.bool p.other), (.bool p.same), (.int .u8 (((p.b).toNat : Int))), (.int .i64 p.view), (.slice A3 p.proposed.length cap4)])]) (r := []) hOqs hC (Nat.le_refl _) hB (by have q := toldQ_len hq; simp [maxL]; omega)
      replace hs2 := hs2.mono hg59; replace r9 := r9.mono hg59
      exact fun ac_ ha => hQ _ _ _ (results1 ha rfl ⟨_, _, [(.int .i64 nd), (.int .i64 1), (.int .i64 0), (.slice A11 (([baseI]).length) cap12), (.slice none 0 0), (.slice qsA qs.length qsC)], rfl, row49, rfl, hB.range (i := 1) (m := 6) rfl rfl, rfl⟩) ha.df (endG hC (by rw [show toldI p nd sq dg kp = (Change.mk nd 1 0 ([baseI]) ([]) qs) from (by unfold toldI; rw [toldQ_end hq hk3 (by first | exact .inl h14 | exact .inr h14) hkl]; simp only [h15, h40, h41, h57, Bool.and_true, Bool.and_false, Bool.true_and, Bool.false_and, Bool.not_true, Bool.not_false, Bool.or_true, Bool.true_or, Bool.or_false, cond_true, cond_false]; first | done | rfl | (exfalso; simp_all; done))]; exact ⟨_, rfl, (Change.mkIs (x := (Change.mk nd 1 0 ([baseI]) ([]) qs)) r9 (Sl.nil_ _) hs58)⟩))
     ·
      skip
      refine wcCondT rfl ?_
      refine wcSeq (wcRegion ?_)
      refine wlVal (opMove rfl) rfl ?_
      refine wlVal (opFieldAddr rfl fo46_3) rfl ?_
      refine wlVal (opLoadOne (v := (.int .i64 p.view)) rfl (hB.cell (i := 3) rfl rfl) one3) rfl ?_
      refine wlCallS hC hB rfl co15 rfl rfl (bring_ret _ _ hC.holds p.view 3) ?_; intro w hk hC hB
      refine wlVal (opAdd rfl rfl) rfl ?_
      refine wlVal (opAssign rfl) rfl ?_
      refine wlThen (wcSeq (wcRegion ?_))
      refine wlVal (opMove rfl) rfl ?_
      refine wlVal (opLoadRow (cs := dg.cells) rfl (hB.range (i := 2) (m := 32) rfl (by simp [Mark.cells, Stand.cells])) row28 (by simp [Mark.cells, Stand.cells])) rfl ?_
      refine wlVal (opMove rfl) rfl ?_
      refine wlVal (opBuild (ps := [(0, .tmp 101), (1, .tmp 102), (2, .tmp 103)]) (cs := ((.int .i64 sq) :: (dg.cells ++ ((.int .i64 (IntKind.wrap .i64 (4 + ((bringI p.view 3))))) :: [])))) so58 zero58 rfl rfl (by simp [buildCells, Value.cells])) rfl ?_
      refine wlBuildSlice (α := Stand) (ps := [(0, .tmp 104)]) (xs := [(Stand.mk sq dg (IntKind.wrap .i64 (4 + ((bringI p.view 3)))))]) (rows := [((.int .i64 sq) :: (dg.cells ++ ((.int .i64 (IntKind.wrap .i64 (4 + ((bringI p.view 3))))) :: [])))]) elo47 rfl rfl hC hB rfl rfl rfl ⟨rfl, trivial⟩ rfl ?_; intro b60 G w hk hC hB hs61
      replace hs2 := hs2.mono hk.gle; replace r9 := r9.mono hk.gle; replace hOqs := hOqs.mono hk.gle
      refine wlVal (opFieldAddr rfl fo49_4) rfl ?_
      refine wlStore 0 (vs := [(.slice (some ⟨b60, 0, none⟩) 1 1)]) (cs := [(.int .i64 nd), (.int .i64 1), (.int .i64 0), (.slice A11 (([baseI]).length) cap12), (.slice none 0 0), (.slice qsA qs.length qsC)]) (cs' := [(.int .i64 nd), (.int .i64 1), (.int .i64 0), (.slice A11 (([baseI]).length) cap12), (.slice (some ⟨b60, 0, none⟩) 1 1), (.slice qsA qs.length qsC)]) hC hB rfl rfl rfl sz47 rfl rfl rfl (by simp [Mark.cells, Stand.cells]) rfl rfl ?_; intro w hC hB
      replace hB : Bxs G w w0.heap.size ([(b13, 49, [(.int .i64 nd), (.int .i64 1), (.int .i64 0), (.slice A11 (([baseI]).length) cap12), (.slice (some ⟨b60, 0, none⟩) 1 1), (.slice qsA qs.length qsC)]), (b7, 49, [(.int .i64 0), (.int .i64 0), (.int .i64 0), (.slice none 0 0), (.slice none 0 0), (.slice none 0 0)]), (b6, 28, dg.cells), (b5, 46, [(.bool p.other), (.bool p.same), (.int .u8 (((p.b).toNat : Int))), (.int .i64 p.view), (.slice A3 p.proposed.length cap4)])] ++ (Option.toList qsO ++ [])) := hB
      refine wlThen (wcRegion ?_)
      refine wlVal (opFieldAddr rfl fo49_5) rfl ?_
      refine wlVal (opLoadOne (v := (.slice qsA qs.length qsC)) rfl (hB.cell (i := 0) rfl rfl) one47) rfl ?_
      refine wlVal (opMove rfl) rfl ?_
      refine wlVal (opLoadRow (cs := dg.cells) rfl (hB.range (i := 2) (m := 32) rfl (by simp [Mark.cells, Stand.cells])) row28 (by simp [Mark.cells, Stand.cells])) rfl ?_
      refine wlVal (opMove rfl) rfl ?_
      refine wlVal (opBuild (ps := [(0, .tmp 109), (1, .tmp 110), (2, .tmp 111)]) (cs := ((.int .i64 sq) :: (dg.cells ++ ((.int .i64 (IntKind.wrap .i64 (4 + ((bringI p.view 3))))) :: [])))) so58 zero58 rfl rfl (by simp [buildCells, Value.cells])) rfl ?_
      refine wlBuildSlice (α := Stand) (ps := [(0, .tmp 112)]) (xs := [(Stand.mk sq dg (IntKind.wrap .i64 (4 + ((bringI p.view 3)))))]) (rows := [((.int .i64 sq) :: (dg.cells ++ ((.int .i64 (IntKind.wrap .i64 (4 + ((bringI p.view 3))))) :: [])))]) elo47 rfl rfl hC hB rfl rfl rfl ⟨rfl, trivial⟩ rfl ?_; intro b62 G w hk hC hB hs63
      replace hs2 := hs2.mono hk.gle; replace r9 := r9.mono hk.gle; replace hOqs := hOqs.mono hk.gle; replace hs61 := hs61.mono hk.gle
      refine wlAppend (α := Stand) (bl := [(b13, 49, [(.int .i64 nd), (.int .i64 1), (.int .i64 0), (.slice A11 (([baseI]).length) cap12), (.slice (some ⟨b60, 0, none⟩) 1 1), (.slice qsA qs.length qsC)]), (b7, 49, [(.int .i64 0), (.int .i64 0), (.int .i64 0), (.slice none 0 0), (.slice none 0 0), (.slice none 0 0)]), (b6, 28, dg.cells), (b5, 46, [(.bool p.other), (.bool p.same), (.int .u8 (((p.b).toNat : Int))), (.int .i64 p.view), (.slice A3 p.proposed.length cap4)])]) (o := qsO) (r := []) elo47 hC hB rfl rfl hOqs hs63 (by have q := toldQ_len hq; simp; omega) rfl rfl ?_; intro A64 cap65 o66 w hC hB hO67
      refine wlVal (opFieldAddr rfl fo49_5) rfl ?_
      refine wlStore 0 (vs := [(.slice A64 (((qs ++ [(Stand.mk sq dg (IntKind.wrap .i64 (4 + ((bringI p.view 3)))))])).length) cap65)]) (cs := [(.int .i64 nd), (.int .i64 1), (.int .i64 0), (.slice A11 (([baseI]).length) cap12), (.slice (some ⟨b60, 0, none⟩) 1 1), (.slice qsA qs.length qsC)]) (cs' := [(.int .i64 nd), (.int .i64 1), (.int .i64 0), (.slice A11 (([baseI]).length) cap12), (.slice (some ⟨b60, 0, none⟩) 1 1), (.slice A64 (((qs ++ [(Stand.mk sq dg (IntKind.wrap .i64 (4 + ((bringI p.view 3)))))])).length) cap65)]) hC hB rfl rfl rfl sz47 rfl rfl rfl (by simp [Mark.cells, Stand.cells]) rfl rfl ?_; intro w hC hB
      replace hB : Bxs G w w0.heap.size ([(b13, 49, [(.int .i64 nd), (.int .i64 1), (.int .i64 0), (.slice A11 (([baseI]).length) cap12), (.slice (some ⟨b60, 0, none⟩) 1 1), (.slice A64 (((qs ++ [(Stand.mk sq dg (IntKind.wrap .i64 (4 + ((bringI p.view 3)))))])).length) cap65)]), (b7, 49, [(.int .i64 0), (.int .i64 0), (.int .i64 0), (.slice none 0 0), (.slice none 0 0), (.slice none 0 0)]), (b6, 28, dg.cells), (b5, 46, [(.bool p.other), (.bool p.same), (.int .u8 (((p.b).toNat : Int))), (.int .i64 p.view), (.slice A3 p.proposed.length cap4)])] ++ (Option.toList o66 ++ [])) := hB
      refine wlThen (wcSeq (wcRegion ?_))
      refine wlVal (opLoadRow (cs := [(.int .i64 nd), (.int .i64 1), (.int .i64 0), (.slice A11 (([baseI]).length) cap12), (.slice (some ⟨b60, 0, none⟩) 1 1), (.slice A64 (((qs ++ [(Stand.mk sq dg (IntKind.wrap .i64 (4 + ((bringI p.view 3)))))])).length) cap65)]) rfl (hB.range (i := 0) (m := 6) rfl rfl) row49 rfl) rfl ?_
      refine wlStore 1 (vs := [(.int .i64 nd), (.int .i64 1), (.int .i64 0), (.slice A11 (([baseI]).length) cap12), (.slice (some ⟨b60, 0, none⟩) 1 1), (.slice A64 (((qs ++ [(Stand.mk sq dg (IntKind.wrap .i64 (4 + ((bringI p.view 3)))))])).length) cap65)]) (cs := [(.int .i64 0), (.int .i64 0), (.int .i64 0), (.slice none 0 0), (.slice none 0 0), (.slice none 0 0)]) (cs' := [(.int .i64 nd), (.int .i64 1), (.int .i64 0), (.slice A11 (([baseI]).length) cap12), (.slice (some ⟨b60, 0, none⟩) 1 1), (.slice A64 (((qs ++ [(Stand.mk sq dg (IntKind.wrap .i64 (4 + ((bringI p.view 3)))))])).length) cap65)]) hC hB rfl rfl rfl sz49 rfl rfl rfl (by simp [Mark.cells, Stand.cells]) rfl rfl ?_; intro w hC hB
      replace hB : Bxs G w w0.heap.size ([(b13, 49, [(.int .i64 nd), (.int .i64 1), (.int .i64 0), (.slice A11 (([baseI]).length) cap12), (.slice (some ⟨b60, 0, none⟩) 1 1), (.slice A64 (((qs ++ [(Stand.mk sq dg (IntKind.wrap .i64 (4 + ((bringI p.view 3)))))])).length) cap65)]), (b7, 49, [(.int .i64 nd), (.int .i64 1), (.int .i64 0), (.slice A11 (([baseI]).length) cap12), (.slice (some ⟨b60, 0, none⟩) 1 1), (.slice A64 (((qs ++ [(Stand.mk sq dg (IntKind.wrap .i64 (4 + ((bringI p.view 3)))))])).length) cap65)]), (b6, 28, dg.cells), (b5, 46, [(.bool p.other), (.bool p.same), (.int .u8 (((p.b).toNat : Int))), (.int .i64 p.view), (.slice A3 p.proposed.length cap4)])] ++ (Option.toList o66 ++ [])) := hB
      refine wlThen ?_
      refine wcRet ?_
      obtain ⟨G, hg69, hC, hB, hs68⟩ := Ow.freeze' (bl := [(b13, 49, [(.int .i64 nd), (.int .i64 1), (.int .i64 0), (.slice A11 (([baseI]).length) cap12), (.slice (some ⟨b60, 0, none⟩) 1 1), (.slice A64 (((qs ++ [(Stand.mk sq dg (IntKind.wrap .i64 (4 + ((bringI p.view 3)))))])).length) cap65)]), (b7, 49, [(.int .i64 nd), (.int .i64 1), (.int .i64 0), (.slice A11 (([baseI]).length) cap12), (.slice (some ⟨b60, 0, none⟩) 1 1), (.slice A64 (((qs ++ [(Stand.mk sq dg (IntKind.wrap .i64 (4 + ((bringI p.view 3)))))])).length) cap65)]), (b6, 28, dg.cells), (b5, 46, [(.bool p.other), (.bool p.same), (.int .u8 (((p.b).toNat : Int))), (.int .i64 p.view), (.slice A3 p.proposed.length cap4)])]) (r := []) hO67 hC (Nat.le_refl _) hB (by have q := toldQ_len hq; simp [maxL]; omega)
      replace hs2 := hs2.mono hg69; replace r9 := r9.mono hg69; replace hs61 := hs61.mono hg69
      exact fun ac_ ha => hQ _ _ _ (results1 ha rfl ⟨_, _, [(.int .i64 nd), (.int .i64 1), (.int .i64 0), (.slice A11 (([baseI]).length) cap12), (.slice (some ⟨b60, 0, none⟩) 1 1), (.slice A64 (((qs ++ [(Stand.mk sq dg (IntKind.wrap .i64 (4 + ((bringI p.view 3)))))])).length) cap65)], rfl, row49, rfl, hB.range (i := 1) (m := 6) rfl rfl, rfl⟩) ha.df (endG hC (by rw [show toldI p nd sq dg kp = (Change.mk nd 1 0 ([baseI]) ([(Stand.mk sq dg (IntKind.wrap .i64 (4 + ((bringI p.view 3)))))]) ((qs ++ [(Stand.mk sq dg (IntKind.wrap .i64 (4 + ((bringI p.view 3)))))]))) from (by unfold toldI; rw [toldQ_end hq hk3 (by first | exact .inl h14 | exact .inr h14) hkl]; simp only [h15, h40, h41, h57, Bool.and_true, Bool.and_false, Bool.true_and, Bool.false_and, Bool.not_true, Bool.not_false, Bool.or_true, Bool.true_or, Bool.or_false, cond_true, cond_false]; first | done | rfl | (exfalso; simp_all; done))]; exact ⟨_, rfl, (Change.mkIs (x := (Change.mk nd 1 0 ([baseI]) ([(Stand.mk sq dg (IntKind.wrap .i64 (4 + ((bringI p.view 3)))))]) ((qs ++ [(Stand.mk sq dg (IntKind.wrap .i64 (4 + ((bringI p.view 3)))))])))) r9 hs61 hs68)⟩))
   ·
    skip
    refine wlOff rfl rfl rfl rfl ?_
    refine wlOff rfl rfl rfl rfl ?_
    refine wlOff rfl rfl rfl rfl ?_
    refine wlVal (opPickF rfl rfl) rfl ?_
    refine wlThen ?_
    refine wcCondF rfl ?_
    refine wcSkip ?_
    refine wcOf ?_
    refine wcSeq (wcSeq (wcRegion ?_))
    refine wlVal (opMove rfl) rfl ?_
    refine wlVal (opMove rfl) rfl ?_
    refine wlOff rfl rfl rfl rfl ?_
    refine wlOff rfl rfl rfl rfl ?_
    refine wlVal (opPickT rfl rfl) rfl ?_
    refine wlThen ?_
    refine wcCondT rfl ?_
    refine wcSeq (wcRegion ?_)
    refine wlVal (opMove rfl) rfl ?_
    refine wlVal (opFieldAddr rfl fo46_3) rfl ?_
    refine wlVal (opLoadOne (v := (.int .i64 p.view)) rfl (hB.cell (i := 3) rfl rfl) one3) rfl ?_
    refine wlCallS hC hB rfl co15 rfl rfl (bring_ret _ _ hC.holds p.view 3) ?_; intro w hk hC hB
    refine wlVal (opAdd rfl rfl) rfl ?_
    refine wlVal (opAssign rfl) rfl ?_
    refine wlThen (wcSeq (wcRegion ?_))
    refine wlVal (opMove rfl) rfl ?_
    refine wlVal (opLoadRow (cs := dg.cells) rfl (hB.range (i := 2) (m := 32) rfl (by simp [Mark.cells, Stand.cells])) row28 (by simp [Mark.cells, Stand.cells])) rfl ?_
    refine wlVal (opMove rfl) rfl ?_
    refine wlVal (opBuild (ps := [(0, .tmp 101), (1, .tmp 102), (2, .tmp 103)]) (cs := ((.int .i64 sq) :: (dg.cells ++ ((.int .i64 (IntKind.wrap .i64 (4 + ((bringI p.view 3))))) :: [])))) so58 zero58 rfl rfl (by simp [buildCells, Value.cells])) rfl ?_
    refine wlBuildSlice (α := Stand) (ps := [(0, .tmp 104)]) (xs := [(Stand.mk sq dg (IntKind.wrap .i64 (4 + ((bringI p.view 3)))))]) (rows := [((.int .i64 sq) :: (dg.cells ++ ((.int .i64 (IntKind.wrap .i64 (4 + ((bringI p.view 3))))) :: [])))]) elo47 rfl rfl hC hB rfl rfl rfl ⟨rfl, trivial⟩ rfl ?_; intro b70 G w hk hC hB hs71
    replace hs2 := hs2.mono hk.gle; replace r9 := r9.mono hk.gle; replace hOqs := hOqs.mono hk.gle
    refine wlVal (opFieldAddr rfl fo49_4) rfl ?_
    refine wlStore 0 (vs := [(.slice (some ⟨b70, 0, none⟩) 1 1)]) (cs := [(.int .i64 nd), (.int .i64 1), (.int .i64 0), (.slice A11 (([baseI]).length) cap12), (.slice none 0 0), (.slice qsA qs.length qsC)]) (cs' := [(.int .i64 nd), (.int .i64 1), (.int .i64 0), (.slice A11 (([baseI]).length) cap12), (.slice (some ⟨b70, 0, none⟩) 1 1), (.slice qsA qs.length qsC)]) hC hB rfl rfl rfl sz47 rfl rfl rfl (by simp [Mark.cells, Stand.cells]) rfl rfl ?_; intro w hC hB
    replace hB : Bxs G w w0.heap.size ([(b13, 49, [(.int .i64 nd), (.int .i64 1), (.int .i64 0), (.slice A11 (([baseI]).length) cap12), (.slice (some ⟨b70, 0, none⟩) 1 1), (.slice qsA qs.length qsC)]), (b7, 49, [(.int .i64 0), (.int .i64 0), (.int .i64 0), (.slice none 0 0), (.slice none 0 0), (.slice none 0 0)]), (b6, 28, dg.cells), (b5, 46, [(.bool p.other), (.bool p.same), (.int .u8 (((p.b).toNat : Int))), (.int .i64 p.view), (.slice A3 p.proposed.length cap4)])] ++ (Option.toList qsO ++ [])) := hB
    refine wlThen (wcRegion ?_)
    refine wlVal (opFieldAddr rfl fo49_5) rfl ?_
    refine wlVal (opLoadOne (v := (.slice qsA qs.length qsC)) rfl (hB.cell (i := 0) rfl rfl) one47) rfl ?_
    refine wlVal (opMove rfl) rfl ?_
    refine wlVal (opLoadRow (cs := dg.cells) rfl (hB.range (i := 2) (m := 32) rfl (by simp [Mark.cells, Stand.cells])) row28 (by simp [Mark.cells, Stand.cells])) rfl ?_
    refine wlVal (opMove rfl) rfl ?_
    refine wlVal (opBuild (ps := [(0, .tmp 109), (1, .tmp 110), (2, .tmp 111)]) (cs := ((.int .i64 sq) :: (dg.cells ++ ((.int .i64 (IntKind.wrap .i64 (4 + ((bringI p.view 3))))) :: [])))) so58 zero58 rfl rfl (by simp [buildCells, Value.cells])) rfl ?_
    refine wlBuildSlice (α := Stand) (ps := [(0, .tmp 112)]) (xs := [(Stand.mk sq dg (IntKind.wrap .i64 (4 + ((bringI p.view 3)))))]) (rows := [((.int .i64 sq) :: (dg.cells ++ ((.int .i64 (IntKind.wrap .i64 (4 + ((bringI p.view 3))))) :: [])))]) elo47 rfl rfl hC hB rfl rfl rfl ⟨rfl, trivial⟩ rfl ?_; intro b72 G w hk hC hB hs73
    replace hs2 := hs2.mono hk.gle; replace r9 := r9.mono hk.gle; replace hOqs := hOqs.mono hk.gle; replace hs71 := hs71.mono hk.gle
    refine wlAppend (α := Stand) (bl := [(b13, 49, [(.int .i64 nd), (.int .i64 1), (.int .i64 0), (.slice A11 (([baseI]).length) cap12), (.slice (some ⟨b70, 0, none⟩) 1 1), (.slice qsA qs.length qsC)]), (b7, 49, [(.int .i64 0), (.int .i64 0), (.int .i64 0), (.slice none 0 0), (.slice none 0 0), (.slice none 0 0)]), (b6, 28, dg.cells), (b5, 46, [(.bool p.other), (.bool p.same), (.int .u8 (((p.b).toNat : Int))), (.int .i64 p.view), (.slice A3 p.proposed.length cap4)])]) (o := qsO) (r := []) elo47 hC hB rfl rfl hOqs hs73 (by have q := toldQ_len hq; simp; omega) rfl rfl ?_; intro A74 cap75 o76 w hC hB hO77
    refine wlVal (opFieldAddr rfl fo49_5) rfl ?_
    refine wlStore 0 (vs := [(.slice A74 (((qs ++ [(Stand.mk sq dg (IntKind.wrap .i64 (4 + ((bringI p.view 3)))))])).length) cap75)]) (cs := [(.int .i64 nd), (.int .i64 1), (.int .i64 0), (.slice A11 (([baseI]).length) cap12), (.slice (some ⟨b70, 0, none⟩) 1 1), (.slice qsA qs.length qsC)]) (cs' := [(.int .i64 nd), (.int .i64 1), (.int .i64 0), (.slice A11 (([baseI]).length) cap12), (.slice (some ⟨b70, 0, none⟩) 1 1), (.slice A74 (((qs ++ [(Stand.mk sq dg (IntKind.wrap .i64 (4 + ((bringI p.view 3)))))])).length) cap75)]) hC hB rfl rfl rfl sz47 rfl rfl rfl (by simp [Mark.cells, Stand.cells]) rfl rfl ?_; intro w hC hB
    replace hB : Bxs G w w0.heap.size ([(b13, 49, [(.int .i64 nd), (.int .i64 1), (.int .i64 0), (.slice A11 (([baseI]).length) cap12), (.slice (some ⟨b70, 0, none⟩) 1 1), (.slice A74 (((qs ++ [(Stand.mk sq dg (IntKind.wrap .i64 (4 + ((bringI p.view 3)))))])).length) cap75)]), (b7, 49, [(.int .i64 0), (.int .i64 0), (.int .i64 0), (.slice none 0 0), (.slice none 0 0), (.slice none 0 0)]), (b6, 28, dg.cells), (b5, 46, [(.bool p.other), (.bool p.same), (.int .u8 (((p.b).toNat : Int))), (.int .i64 p.view), (.slice A3 p.proposed.length cap4)])] ++ (Option.toList o76 ++ [])) := hB
    refine wlThen (wcSeq (wcRegion ?_))
    refine wlVal (opLoadRow (cs := [(.int .i64 nd), (.int .i64 1), (.int .i64 0), (.slice A11 (([baseI]).length) cap12), (.slice (some ⟨b70, 0, none⟩) 1 1), (.slice A74 (((qs ++ [(Stand.mk sq dg (IntKind.wrap .i64 (4 + ((bringI p.view 3)))))])).length) cap75)]) rfl (hB.range (i := 0) (m := 6) rfl rfl) row49 rfl) rfl ?_
    refine wlStore 1 (vs := [(.int .i64 nd), (.int .i64 1), (.int .i64 0), (.slice A11 (([baseI]).length) cap12), (.slice (some ⟨b70, 0, none⟩) 1 1), (.slice A74 (((qs ++ [(Stand.mk sq dg (IntKind.wrap .i64 (4 + ((bringI p.view 3)))))])).length) cap75)]) (cs := [(.int .i64 0), (.int .i64 0), (.int .i64 0), (.slice none 0 0), (.slice none 0 0), (.slice none 0 0)]) (cs' := [(.int .i64 nd), (.int .i64 1), (.int .i64 0), (.slice A11 (([baseI]).length) cap12), (.slice (some ⟨b70, 0, none⟩) 1 1), (.slice A74 (((qs ++ [(Stand.mk sq dg (IntKind.wrap .i64 (4 + ((bringI p.view 3)))))])).length) cap75)]) hC hB rfl rfl rfl sz49 rfl rfl rfl (by simp [Mark.cells, Stand.cells]) rfl rfl ?_; intro w hC hB
    replace hB : Bxs G w w0.heap.size ([(b13, 49, [(.int .i64 nd), (.int .i64 1), (.int .i64 0), (.slice A11 (([baseI]).length) cap12), (.slice (some ⟨b70, 0, none⟩) 1 1), (.slice A74 (((qs ++ [(Stand.mk sq dg (IntKind.wrap .i64 (4 + ((bringI p.view 3)))))])).length) cap75)]), (b7, 49, [(.int .i64 nd), (.int .i64 1), (.int .i64 0), (.slice A11 (([baseI]).length) cap12), (.slice (some ⟨b70, 0, none⟩) 1 1), (.slice A74 (((qs ++ [(Stand.mk sq dg (IntKind.wrap .i64 (4 + ((bringI p.view 3)))))])).length) cap75)]), (b6, 28, dg.cells), (b5, 46, [(.bool p.other), (.bool p.same), (.int .u8 (((p.b).toNat : Int))), (.int .i64 p.view), (.slice A3 p.proposed.length cap4)])] ++ (Option.toList o76 ++ [])) := hB
    refine wlThen ?_
    refine wcRet ?_
    obtain ⟨G, hg79, hC, hB, hs78⟩ := Ow.freeze' (bl := [(b13, 49, [(.int .i64 nd), (.int .i64 1), (.int .i64 0), (.slice A11 (([baseI]).length) cap12), (.slice (some ⟨b70, 0, none⟩) 1 1), (.slice A74 (((qs ++ [(Stand.mk sq dg (IntKind.wrap .i64 (4 + ((bringI p.view 3)))))])).length) cap75)]), (b7, 49, [(.int .i64 nd), (.int .i64 1), (.int .i64 0), (.slice A11 (([baseI]).length) cap12), (.slice (some ⟨b70, 0, none⟩) 1 1), (.slice A74 (((qs ++ [(Stand.mk sq dg (IntKind.wrap .i64 (4 + ((bringI p.view 3)))))])).length) cap75)]), (b6, 28, dg.cells), (b5, 46, [(.bool p.other), (.bool p.same), (.int .u8 (((p.b).toNat : Int))), (.int .i64 p.view), (.slice A3 p.proposed.length cap4)])]) (r := []) hO77 hC (Nat.le_refl _) hB (by have q := toldQ_len hq; simp [maxL]; omega)
    replace hs2 := hs2.mono hg79; replace r9 := r9.mono hg79; replace hs71 := hs71.mono hg79
    exact fun ac_ ha => hQ _ _ _ (results1 ha rfl ⟨_, _, [(.int .i64 nd), (.int .i64 1), (.int .i64 0), (.slice A11 (([baseI]).length) cap12), (.slice (some ⟨b70, 0, none⟩) 1 1), (.slice A74 (((qs ++ [(Stand.mk sq dg (IntKind.wrap .i64 (4 + ((bringI p.view 3)))))])).length) cap75)], rfl, row49, rfl, hB.range (i := 1) (m := 6) rfl rfl, rfl⟩) ha.df (endG hC (by rw [show toldI p nd sq dg kp = (Change.mk nd 1 0 ([baseI]) ([(Stand.mk sq dg (IntKind.wrap .i64 (4 + ((bringI p.view 3)))))]) ((qs ++ [(Stand.mk sq dg (IntKind.wrap .i64 (4 + ((bringI p.view 3)))))]))) from (by unfold toldI; rw [toldQ_end hq hk3 (by first | exact .inl h14 | exact .inr h14) hkl]; simp only [h15, h40, Bool.and_true, Bool.and_false, Bool.true_and, Bool.false_and, Bool.not_true, Bool.not_false, Bool.or_true, Bool.true_or, Bool.or_false, cond_true, cond_false]; first | done | rfl | (exfalso; simp_all; done))]; exact ⟨_, rfl, (Change.mkIs (x := (Change.mk nd 1 0 ([baseI]) ([(Stand.mk sq dg (IntKind.wrap .i64 (4 + ((bringI p.view 3)))))]) ((qs ++ [(Stand.mk sq dg (IntKind.wrap .i64 (4 + ((bringI p.view 3)))))])))) r9 hs71 hs78)⟩))
 ·
  skip
  refine wlOn rfl rfl ?_
  refine wlVal (opMove rfl) rfl ?_
  refine wlOn rfl rfl ?_
  refine wlVal (opLssN (b := 3) rfl rfl) rfl ?_
  refine wlVal (opPickT rfl rfl) rfl ?_
  refine wlThen ?_
  cases h80 : decide (k < 3)
  ·
   skip
   refine wcCondF rfl ?_
   refine wcExit ?_
   refine wcOf ?_
   refine wcSeq (wcSeq (wcRegion ?_))
   refine wlVal (opFieldAddr rfl fo46_0) rfl ?_
   refine wlVal (opLoadOne (v := (.bool p.other)) rfl (hB.cell (i := 3) rfl rfl) one4) rfl ?_
   refine wlVal (opMove rfl) rfl ?_
   cases h81 : p.other
   ·
    skip
    refine wlOff rfl rfl rfl rfl ?_
    refine wlOff rfl rfl rfl rfl ?_
    refine wlVal (opPickF rfl rfl) rfl ?_
    refine wlVal (opMove rfl) rfl ?_
    refine wlOff rfl rfl rfl rfl ?_
    refine wlOff rfl rfl rfl rfl ?_
    refine wlOff rfl rfl rfl rfl ?_
    refine wlVal (opPickF rfl rfl) rfl ?_
    refine wlThen ?_
    refine wcCondF rfl ?_
    refine wcSkip ?_
    refine wcOf ?_
    refine wcSeq (wcSeq (wcRegion ?_))
    refine wlVal (opMove rfl) rfl ?_
    refine wlVal (opMove rfl) rfl ?_
    cases h82 : kp
    ·
     skip
     refine wlOn rfl rfl ?_
     refine wlVal (opFieldAddr rfl fo46_1) rfl ?_
     refine wlOn rfl rfl ?_
     refine wlVal (opLoadOne (v := (.bool p.same)) rfl (hB.cell (i := 3) rfl rfl) one4) rfl ?_
     refine wlVal (opPickF rfl rfl) rfl ?_
     refine wlThen ?_
     cases h83 : p.same
     ·
      skip
      refine wcCondF rfl ?_
      refine wcSkip ?_
      refine wcOf ?_
      refine wcSeq (wcRegion ?_)
      refine wlVal (opLoadRow (cs := [(.int .i64 nd), (.int .i64 1), (.int .i64 0), (.slice A11 (([baseI]).length) cap12), (.slice none 0 0), (.slice qsA qs.length qsC)]) rfl (hB.range (i := 0) (m := 6) rfl rfl) row49 rfl) rfl ?_
      refine wlStore 1 (vs := [(.int .i64 nd), (.int .i64 1), (.int .i64 0), (.slice A11 (([baseI]).length) cap12), (.slice none 0 0), (.slice qsA qs.length qsC)]) (cs := [(.int .i64 0), (.int .i64 0), (.int .i64 0), (.slice none 0 0), (.slice none 0 0), (.slice none 0 0)]) (cs' := [(.int .i64 nd), (.int .i64 1), (.int .i64 0), (.slice A11 (([baseI]).length) cap12), (.slice none 0 0), (.slice qsA qs.length qsC)]) hC hB rfl rfl rfl sz49 rfl rfl rfl (by simp [Mark.cells, Stand.cells]) rfl rfl ?_; intro w hC hB
      replace hB : Bxs G w w0.heap.size ([(b13, 49, [(.int .i64 nd), (.int .i64 1), (.int .i64 0), (.slice A11 (([baseI]).length) cap12), (.slice none 0 0), (.slice qsA qs.length qsC)]), (b7, 49, [(.int .i64 nd), (.int .i64 1), (.int .i64 0), (.slice A11 (([baseI]).length) cap12), (.slice none 0 0), (.slice qsA qs.length qsC)]), (b6, 28, dg.cells), (b5, 46, [(.bool p.other), (.bool p.same), (.int .u8 (((p.b).toNat : Int))), (.int .i64 p.view), (.slice A3 p.proposed.length cap4)])] ++ (Option.toList qsO ++ [])) := hB
      refine wlThen ?_
      refine wcRet ?_
      obtain ⟨G, hg85, hC, hB, hs84⟩ := Ow.freeze' (bl := [(b13, 49, [(.int .i64 nd), (.int .i64 1), (.int .i64 0), (.slice A11 (([baseI]).length) cap12), (.slice none 0 0), (.slice qsA qs.length qsC)]), (b7, 49, [(.int .i64 nd), (.int .i64 1), (.int .i64 0), (.slice A11 (([baseI]).length) cap12), (.slice none 0 0), (.slice qsA qs.length qsC)]), (b6, 28, dg.cells), (b5, 46, [(.bool p.other), (.bool p.same), (.int .u8 (((p.b).toNat : Int))), (.int .i64 p.view), (.slice A3 p.proposed.length cap4)])]) (r := []) hOqs hC (Nat.le_refl _) hB (by have q := toldQ_len hq; simp [maxL]; omega)
      replace hs2 := hs2.mono hg85; replace r9 := r9.mono hg85
      exact fun ac_ ha => hQ _ _ _ (results1 ha rfl ⟨_, _, [(.int .i64 nd), (.int .i64 1), (.int .i64 0), (.slice A11 (([baseI]).length) cap12), (.slice none 0 0), (.slice qsA qs.length qsC)], rfl, row49, rfl, hB.range (i := 1) (m := 6) rfl rfl, rfl⟩) ha.df (endG hC (by rw [show toldI p nd sq dg kp = (Change.mk nd 1 0 ([baseI]) ([]) qs) from (by unfold toldI; rw [toldQ_end hq hk3 (by first | exact .inl h80 | exact .inr h80) hkl]; simp only [h81, h82, h83, Bool.and_true, Bool.and_false, Bool.true_and, Bool.false_and, Bool.not_true, Bool.not_false, Bool.or_true, Bool.true_or, Bool.or_false, cond_true, cond_false]; first | done | rfl | (exfalso; simp_all; done))]; exact ⟨_, rfl, (Change.mkIs (x := (Change.mk nd 1 0 ([baseI]) ([]) qs)) r9 (Sl.nil_ _) hs84)⟩))
     ·
      skip
      refine wcCondT rfl ?_
      refine wcSeq (wcRegion ?_)
      refine wlVal (opMove rfl) rfl ?_
      refine wlVal (opFieldAddr rfl fo46_3) rfl ?_
      refine wlVal (opLoadOne (v := (.int .i64 p.view)) rfl (hB.cell (i := 3) rfl rfl) one3) rfl ?_
      refine wlCallS hC hB rfl co15 rfl rfl (bring_ret _ _ hC.holds p.view 3) ?_; intro w hk hC hB
      refine wlVal (opAdd rfl rfl) rfl ?_
      refine wlVal (opAssign rfl) rfl ?_
      refine wlThen (wcSeq (wcRegion ?_))
      refine wlVal (opMove rfl) rfl ?_
      refine wlVal (opLoadRow (cs := dg.cells) rfl (hB.range (i := 2) (m := 32) rfl (by simp [Mark.cells, Stand.cells])) row28 (by simp [Mark.cells, Stand.cells])) rfl ?_
      refine wlVal (opMove rfl) rfl ?_
      refine wlVal (opBuild (ps := [(0, .tmp 101), (1, .tmp 102), (2, .tmp 103)]) (cs := ((.int .i64 sq) :: (dg.cells ++ ((.int .i64 (IntKind.wrap .i64 (4 + ((bringI p.view 3))))) :: [])))) so58 zero58 rfl rfl (by simp [buildCells, Value.cells])) rfl ?_
      refine wlBuildSlice (α := Stand) (ps := [(0, .tmp 104)]) (xs := [(Stand.mk sq dg (IntKind.wrap .i64 (4 + ((bringI p.view 3)))))]) (rows := [((.int .i64 sq) :: (dg.cells ++ ((.int .i64 (IntKind.wrap .i64 (4 + ((bringI p.view 3))))) :: [])))]) elo47 rfl rfl hC hB rfl rfl rfl ⟨rfl, trivial⟩ rfl ?_; intro b86 G w hk hC hB hs87
      replace hs2 := hs2.mono hk.gle; replace r9 := r9.mono hk.gle; replace hOqs := hOqs.mono hk.gle
      refine wlVal (opFieldAddr rfl fo49_4) rfl ?_
      refine wlStore 0 (vs := [(.slice (some ⟨b86, 0, none⟩) 1 1)]) (cs := [(.int .i64 nd), (.int .i64 1), (.int .i64 0), (.slice A11 (([baseI]).length) cap12), (.slice none 0 0), (.slice qsA qs.length qsC)]) (cs' := [(.int .i64 nd), (.int .i64 1), (.int .i64 0), (.slice A11 (([baseI]).length) cap12), (.slice (some ⟨b86, 0, none⟩) 1 1), (.slice qsA qs.length qsC)]) hC hB rfl rfl rfl sz47 rfl rfl rfl (by simp [Mark.cells, Stand.cells]) rfl rfl ?_; intro w hC hB
      replace hB : Bxs G w w0.heap.size ([(b13, 49, [(.int .i64 nd), (.int .i64 1), (.int .i64 0), (.slice A11 (([baseI]).length) cap12), (.slice (some ⟨b86, 0, none⟩) 1 1), (.slice qsA qs.length qsC)]), (b7, 49, [(.int .i64 0), (.int .i64 0), (.int .i64 0), (.slice none 0 0), (.slice none 0 0), (.slice none 0 0)]), (b6, 28, dg.cells), (b5, 46, [(.bool p.other), (.bool p.same), (.int .u8 (((p.b).toNat : Int))), (.int .i64 p.view), (.slice A3 p.proposed.length cap4)])] ++ (Option.toList qsO ++ [])) := hB
      refine wlThen (wcRegion ?_)
      refine wlVal (opFieldAddr rfl fo49_5) rfl ?_
      refine wlVal (opLoadOne (v := (.slice qsA qs.length qsC)) rfl (hB.cell (i := 0) rfl rfl) one47) rfl ?_
      refine wlVal (opMove rfl) rfl ?_
      refine wlVal (opLoadRow (cs := dg.cells) rfl (hB.range (i := 2) (m := 32) rfl (by simp [Mark.cells, Stand.cells])) row28 (by simp [Mark.cells, Stand.cells])) rfl ?_
      refine wlVal (opMove rfl) rfl ?_
      refine wlVal (opBuild (ps := [(0, .tmp 109), (1, .tmp 110), (2, .tmp 111)]) (cs := ((.int .i64 sq) :: (dg.cells ++ ((.int .i64 (IntKind.wrap .i64 (4 + ((bringI p.view 3))))) :: [])))) so58 zero58 rfl rfl (by simp [buildCells, Value.cells])) rfl ?_
      refine wlBuildSlice (α := Stand) (ps := [(0, .tmp 112)]) (xs := [(Stand.mk sq dg (IntKind.wrap .i64 (4 + ((bringI p.view 3)))))]) (rows := [((.int .i64 sq) :: (dg.cells ++ ((.int .i64 (IntKind.wrap .i64 (4 + ((bringI p.view 3))))) :: [])))]) elo47 rfl rfl hC hB rfl rfl rfl ⟨rfl, trivial⟩ rfl ?_; intro b88 G w hk hC hB hs89
      replace hs2 := hs2.mono hk.gle; replace r9 := r9.mono hk.gle; replace hOqs := hOqs.mono hk.gle; replace hs87 := hs87.mono hk.gle
      refine wlAppend (α := Stand) (bl := [(b13, 49, [(.int .i64 nd), (.int .i64 1), (.int .i64 0), (.slice A11 (([baseI]).length) cap12), (.slice (some ⟨b86, 0, none⟩) 1 1), (.slice qsA qs.length qsC)]), (b7, 49, [(.int .i64 0), (.int .i64 0), (.int .i64 0), (.slice none 0 0), (.slice none 0 0), (.slice none 0 0)]), (b6, 28, dg.cells), (b5, 46, [(.bool p.other), (.bool p.same), (.int .u8 (((p.b).toNat : Int))), (.int .i64 p.view), (.slice A3 p.proposed.length cap4)])]) (o := qsO) (r := []) elo47 hC hB rfl rfl hOqs hs89 (by have q := toldQ_len hq; simp; omega) rfl rfl ?_; intro A90 cap91 o92 w hC hB hO93
      refine wlVal (opFieldAddr rfl fo49_5) rfl ?_
      refine wlStore 0 (vs := [(.slice A90 (((qs ++ [(Stand.mk sq dg (IntKind.wrap .i64 (4 + ((bringI p.view 3)))))])).length) cap91)]) (cs := [(.int .i64 nd), (.int .i64 1), (.int .i64 0), (.slice A11 (([baseI]).length) cap12), (.slice (some ⟨b86, 0, none⟩) 1 1), (.slice qsA qs.length qsC)]) (cs' := [(.int .i64 nd), (.int .i64 1), (.int .i64 0), (.slice A11 (([baseI]).length) cap12), (.slice (some ⟨b86, 0, none⟩) 1 1), (.slice A90 (((qs ++ [(Stand.mk sq dg (IntKind.wrap .i64 (4 + ((bringI p.view 3)))))])).length) cap91)]) hC hB rfl rfl rfl sz47 rfl rfl rfl (by simp [Mark.cells, Stand.cells]) rfl rfl ?_; intro w hC hB
      replace hB : Bxs G w w0.heap.size ([(b13, 49, [(.int .i64 nd), (.int .i64 1), (.int .i64 0), (.slice A11 (([baseI]).length) cap12), (.slice (some ⟨b86, 0, none⟩) 1 1), (.slice A90 (((qs ++ [(Stand.mk sq dg (IntKind.wrap .i64 (4 + ((bringI p.view 3)))))])).length) cap91)]), (b7, 49, [(.int .i64 0), (.int .i64 0), (.int .i64 0), (.slice none 0 0), (.slice none 0 0), (.slice none 0 0)]), (b6, 28, dg.cells), (b5, 46, [(.bool p.other), (.bool p.same), (.int .u8 (((p.b).toNat : Int))), (.int .i64 p.view), (.slice A3 p.proposed.length cap4)])] ++ (Option.toList o92 ++ [])) := hB
      refine wlThen (wcSeq (wcRegion ?_))
      refine wlVal (opLoadRow (cs := [(.int .i64 nd), (.int .i64 1), (.int .i64 0), (.slice A11 (([baseI]).length) cap12), (.slice (some ⟨b86, 0, none⟩) 1 1), (.slice A90 (((qs ++ [(Stand.mk sq dg (IntKind.wrap .i64 (4 + ((bringI p.view 3)))))])).length) cap91)]) rfl (hB.range (i := 0) (m := 6) rfl rfl) row49 rfl) rfl ?_
      refine wlStore 1 (vs := [(.int .i64 nd), (.int .i64 1), (.int .i64 0), (.slice A11 (([baseI]).length) cap12), (.slice (some ⟨b86, 0, none⟩) 1 1), (.slice A90 (((qs ++ [(Stand.mk sq dg (IntKind.wrap .i64 (4 + ((bringI p.view 3)))))])).length) cap91)]) (cs := [(.int .i64 0), (.int .i64 0), (.int .i64 0), (.slice none 0 0), (.slice none 0 0), (.slice none 0 0)]) (cs' := [(.int .i64 nd), (.int .i64 1), (.int .i64 0), (.slice A11 (([baseI]).length) cap12), (.slice (some ⟨b86, 0, none⟩) 1 1), (.slice A90 (((qs ++ [(Stand.mk sq dg (IntKind.wrap .i64 (4 + ((bringI p.view 3)))))])).length) cap91)]) hC hB rfl rfl rfl sz49 rfl rfl rfl (by simp [Mark.cells, Stand.cells]) rfl rfl ?_; intro w hC hB
      replace hB : Bxs G w w0.heap.size ([(b13, 49, [(.int .i64 nd), (.int .i64 1), (.int .i64 0), (.slice A11 (([baseI]).length) cap12), (.slice (some ⟨b86, 0, none⟩) 1 1), (.slice A90 (((qs ++ [(Stand.mk sq dg (IntKind.wrap .i64 (4 + ((bringI p.view 3)))))])).length) cap91)]), (b7, 49, [(.int .i64 nd), (.int .i64 1), (.int .i64 0), (.slice A11 (([baseI]).length) cap12), (.slice (some ⟨b86, 0, none⟩) 1 1), (.slice A90 (((qs ++ [(Stand.mk sq dg (IntKind.wrap .i64 (4 + ((bringI p.view 3)))))])).length) cap91)]), (b6, 28, dg.cells), (b5, 46, [(.bool p.other), (.bool p.same), (.int .u8 (((p.b).toNat : Int))), (.int .i64 p.view), (.slice A3 p.proposed.length cap4)])] ++ (Option.toList o92 ++ [])) := hB
      refine wlThen ?_
      refine wcRet ?_
      obtain ⟨G, hg95, hC, hB, hs94⟩ := Ow.freeze' (bl := [(b13, 49, [(.int .i64 nd), (.int .i64 1), (.int .i64 0), (.slice A11 (([baseI]).length) cap12), (.slice (some ⟨b86, 0, none⟩) 1 1), (.slice A90 (((qs ++ [(Stand.mk sq dg (IntKind.wrap .i64 (4 + ((bringI p.view 3)))))])).length) cap91)]), (b7, 49, [(.int .i64 nd), (.int .i64 1), (.int .i64 0), (.slice A11 (([baseI]).length) cap12), (.slice (some ⟨b86, 0, none⟩) 1 1), (.slice A90 (((qs ++ [(Stand.mk sq dg (IntKind.wrap .i64 (4 + ((bringI p.view 3)))))])).length) cap91)]), (b6, 28, dg.cells), (b5, 46, [(.bool p.other), (.bool p.same), (.int .u8 (((p.b).toNat : Int))), (.int .i64 p.view), (.slice A3 p.proposed.length cap4)])]) (r := []) hO93 hC (Nat.le_refl _) hB (by have q := toldQ_len hq; simp [maxL]; omega)
      replace hs2 := hs2.mono hg95; replace r9 := r9.mono hg95; replace hs87 := hs87.mono hg95
      exact fun ac_ ha => hQ _ _ _ (results1 ha rfl ⟨_, _, [(.int .i64 nd), (.int .i64 1), (.int .i64 0), (.slice A11 (([baseI]).length) cap12), (.slice (some ⟨b86, 0, none⟩) 1 1), (.slice A90 (((qs ++ [(Stand.mk sq dg (IntKind.wrap .i64 (4 + ((bringI p.view 3)))))])).length) cap91)], rfl, row49, rfl, hB.range (i := 1) (m := 6) rfl rfl, rfl⟩) ha.df (endG hC (by rw [show toldI p nd sq dg kp = (Change.mk nd 1 0 ([baseI]) ([(Stand.mk sq dg (IntKind.wrap .i64 (4 + ((bringI p.view 3)))))]) ((qs ++ [(Stand.mk sq dg (IntKind.wrap .i64 (4 + ((bringI p.view 3)))))]))) from (by unfold toldI; rw [toldQ_end hq hk3 (by first | exact .inl h80 | exact .inr h80) hkl]; simp only [h81, h82, h83, Bool.and_true, Bool.and_false, Bool.true_and, Bool.false_and, Bool.not_true, Bool.not_false, Bool.or_true, Bool.true_or, Bool.or_false, cond_true, cond_false]; first | done | rfl | (exfalso; simp_all; done))]; exact ⟨_, rfl, (Change.mkIs (x := (Change.mk nd 1 0 ([baseI]) ([(Stand.mk sq dg (IntKind.wrap .i64 (4 + ((bringI p.view 3)))))]) ((qs ++ [(Stand.mk sq dg (IntKind.wrap .i64 (4 + ((bringI p.view 3)))))])))) r9 hs87 hs94)⟩))
    ·
     skip
     refine wlOff rfl rfl rfl rfl ?_
     refine wlOff rfl rfl rfl rfl ?_
     refine wlVal (opPickT rfl rfl) rfl ?_
     refine wlThen ?_
     refine wcCondT rfl ?_
     refine wcSeq (wcRegion ?_)
     refine wlVal (opMove rfl) rfl ?_
     refine wlVal (opFieldAddr rfl fo46_3) rfl ?_
     refine wlVal (opLoadOne (v := (.int .i64 p.view)) rfl (hB.cell (i := 3) rfl rfl) one3) rfl ?_
     refine wlCallS hC hB rfl co15 rfl rfl (bring_ret _ _ hC.holds p.view 3) ?_; intro w hk hC hB
     refine wlVal (opAdd rfl rfl) rfl ?_
     refine wlVal (opAssign rfl) rfl ?_
     refine wlThen (wcSeq (wcRegion ?_))
     refine wlVal (opMove rfl) rfl ?_
     refine wlVal (opLoadRow (cs := dg.cells) rfl (hB.range (i := 2) (m := 32) rfl (by simp [Mark.cells, Stand.cells])) row28 (by simp [Mark.cells, Stand.cells])) rfl ?_
     refine wlVal (opMove rfl) rfl ?_
     refine wlVal (opBuild (ps := [(0, .tmp 101), (1, .tmp 102), (2, .tmp 103)]) (cs := ((.int .i64 sq) :: (dg.cells ++ ((.int .i64 (IntKind.wrap .i64 (4 + ((bringI p.view 3))))) :: [])))) so58 zero58 rfl rfl (by simp [buildCells, Value.cells])) rfl ?_
     refine wlBuildSlice (α := Stand) (ps := [(0, .tmp 104)]) (xs := [(Stand.mk sq dg (IntKind.wrap .i64 (4 + ((bringI p.view 3)))))]) (rows := [((.int .i64 sq) :: (dg.cells ++ ((.int .i64 (IntKind.wrap .i64 (4 + ((bringI p.view 3))))) :: [])))]) elo47 rfl rfl hC hB rfl rfl rfl ⟨rfl, trivial⟩ rfl ?_; intro b96 G w hk hC hB hs97
     replace hs2 := hs2.mono hk.gle; replace r9 := r9.mono hk.gle; replace hOqs := hOqs.mono hk.gle
     refine wlVal (opFieldAddr rfl fo49_4) rfl ?_
     refine wlStore 0 (vs := [(.slice (some ⟨b96, 0, none⟩) 1 1)]) (cs := [(.int .i64 nd), (.int .i64 1), (.int .i64 0), (.slice A11 (([baseI]).length) cap12), (.slice none 0 0), (.slice qsA qs.length qsC)]) (cs' := [(.int .i64 nd), (.int .i64 1), (.int .i64 0), (.slice A11 (([baseI]).length) cap12), (.slice (some ⟨b96, 0, none⟩) 1 1), (.slice qsA qs.length qsC)]) hC hB rfl rfl rfl sz47 rfl rfl rfl (by simp [Mark.cells, Stand.cells]) rfl rfl ?_; intro w hC hB
     replace hB : Bxs G w w0.heap.size ([(b13, 49, [(.int .i64 nd), (.int .i64 1), (.int .i64 0), (.slice A11 (([baseI]).length) cap12), (.slice (some ⟨b96, 0, none⟩) 1 1), (.slice qsA qs.length qsC)]), (b7, 49, [(.int .i64 0), (.int .i64 0), (.int .i64 0), (.slice none 0 0), (.slice none 0 0), (.slice none 0 0)]), (b6, 28, dg.cells), (b5, 46, [(.bool p.other), (.bool p.same), (.int .u8 (((p.b).toNat : Int))), (.int .i64 p.view), (.slice A3 p.proposed.length cap4)])] ++ (Option.toList qsO ++ [])) := hB
     refine wlThen (wcRegion ?_)
     refine wlVal (opFieldAddr rfl fo49_5) rfl ?_
     refine wlVal (opLoadOne (v := (.slice qsA qs.length qsC)) rfl (hB.cell (i := 0) rfl rfl) one47) rfl ?_
     refine wlVal (opMove rfl) rfl ?_
     refine wlVal (opLoadRow (cs := dg.cells) rfl (hB.range (i := 2) (m := 32) rfl (by simp [Mark.cells, Stand.cells])) row28 (by simp [Mark.cells, Stand.cells])) rfl ?_
     refine wlVal (opMove rfl) rfl ?_
     refine wlVal (opBuild (ps := [(0, .tmp 109), (1, .tmp 110), (2, .tmp 111)]) (cs := ((.int .i64 sq) :: (dg.cells ++ ((.int .i64 (IntKind.wrap .i64 (4 + ((bringI p.view 3))))) :: [])))) so58 zero58 rfl rfl (by simp [buildCells, Value.cells])) rfl ?_
     refine wlBuildSlice (α := Stand) (ps := [(0, .tmp 112)]) (xs := [(Stand.mk sq dg (IntKind.wrap .i64 (4 + ((bringI p.view 3)))))]) (rows := [((.int .i64 sq) :: (dg.cells ++ ((.int .i64 (IntKind.wrap .i64 (4 + ((bringI p.view 3))))) :: [])))]) elo47 rfl rfl hC hB rfl rfl rfl ⟨rfl, trivial⟩ rfl ?_; intro b98 G w hk hC hB hs99
     replace hs2 := hs2.mono hk.gle; replace r9 := r9.mono hk.gle; replace hOqs := hOqs.mono hk.gle; replace hs97 := hs97.mono hk.gle
     refine wlAppend (α := Stand) (bl := [(b13, 49, [(.int .i64 nd), (.int .i64 1), (.int .i64 0), (.slice A11 (([baseI]).length) cap12), (.slice (some ⟨b96, 0, none⟩) 1 1), (.slice qsA qs.length qsC)]), (b7, 49, [(.int .i64 0), (.int .i64 0), (.int .i64 0), (.slice none 0 0), (.slice none 0 0), (.slice none 0 0)]), (b6, 28, dg.cells), (b5, 46, [(.bool p.other), (.bool p.same), (.int .u8 (((p.b).toNat : Int))), (.int .i64 p.view), (.slice A3 p.proposed.length cap4)])]) (o := qsO) (r := []) elo47 hC hB rfl rfl hOqs hs99 (by have q := toldQ_len hq; simp; omega) rfl rfl ?_; intro A100 cap101 o102 w hC hB hO103
     refine wlVal (opFieldAddr rfl fo49_5) rfl ?_
     refine wlStore 0 (vs := [(.slice A100 (((qs ++ [(Stand.mk sq dg (IntKind.wrap .i64 (4 + ((bringI p.view 3)))))])).length) cap101)]) (cs := [(.int .i64 nd), (.int .i64 1), (.int .i64 0), (.slice A11 (([baseI]).length) cap12), (.slice (some ⟨b96, 0, none⟩) 1 1), (.slice qsA qs.length qsC)]) (cs' := [(.int .i64 nd), (.int .i64 1), (.int .i64 0), (.slice A11 (([baseI]).length) cap12), (.slice (some ⟨b96, 0, none⟩) 1 1), (.slice A100 (((qs ++ [(Stand.mk sq dg (IntKind.wrap .i64 (4 + ((bringI p.view 3)))))])).length) cap101)]) hC hB rfl rfl rfl sz47 rfl rfl rfl (by simp [Mark.cells, Stand.cells]) rfl rfl ?_; intro w hC hB
     replace hB : Bxs G w w0.heap.size ([(b13, 49, [(.int .i64 nd), (.int .i64 1), (.int .i64 0), (.slice A11 (([baseI]).length) cap12), (.slice (some ⟨b96, 0, none⟩) 1 1), (.slice A100 (((qs ++ [(Stand.mk sq dg (IntKind.wrap .i64 (4 + ((bringI p.view 3)))))])).length) cap101)]), (b7, 49, [(.int .i64 0), (.int .i64 0), (.int .i64 0), (.slice none 0 0), (.slice none 0 0), (.slice none 0 0)]), (b6, 28, dg.cells), (b5, 46, [(.bool p.other), (.bool p.same), (.int .u8 (((p.b).toNat : Int))), (.int .i64 p.view), (.slice A3 p.proposed.length cap4)])] ++ (Option.toList o102 ++ [])) := hB
     refine wlThen (wcSeq (wcRegion ?_))
     refine wlVal (opLoadRow (cs := [(.int .i64 nd), (.int .i64 1), (.int .i64 0), (.slice A11 (([baseI]).length) cap12), (.slice (some ⟨b96, 0, none⟩) 1 1), (.slice A100 (((qs ++ [(Stand.mk sq dg (IntKind.wrap .i64 (4 + ((bringI p.view 3)))))])).length) cap101)]) rfl (hB.range (i := 0) (m := 6) rfl rfl) row49 rfl) rfl ?_
     refine wlStore 1 (vs := [(.int .i64 nd), (.int .i64 1), (.int .i64 0), (.slice A11 (([baseI]).length) cap12), (.slice (some ⟨b96, 0, none⟩) 1 1), (.slice A100 (((qs ++ [(Stand.mk sq dg (IntKind.wrap .i64 (4 + ((bringI p.view 3)))))])).length) cap101)]) (cs := [(.int .i64 0), (.int .i64 0), (.int .i64 0), (.slice none 0 0), (.slice none 0 0), (.slice none 0 0)]) (cs' := [(.int .i64 nd), (.int .i64 1), (.int .i64 0), (.slice A11 (([baseI]).length) cap12), (.slice (some ⟨b96, 0, none⟩) 1 1), (.slice A100 (((qs ++ [(Stand.mk sq dg (IntKind.wrap .i64 (4 + ((bringI p.view 3)))))])).length) cap101)]) hC hB rfl rfl rfl sz49 rfl rfl rfl (by simp [Mark.cells, Stand.cells]) rfl rfl ?_; intro w hC hB
     replace hB : Bxs G w w0.heap.size ([(b13, 49, [(.int .i64 nd), (.int .i64 1), (.int .i64 0), (.slice A11 (([baseI]).length) cap12), (.slice (some ⟨b96, 0, none⟩) 1 1), (.slice A100 (((qs ++ [(Stand.mk sq dg (IntKind.wrap .i64 (4 + ((bringI p.view 3)))))])).length) cap101)]), (b7, 49, [(.int .i64 nd), (.int .i64 1), (.int .i64 0), (.slice A11 (([baseI]).length) cap12), (.slice (some ⟨b96, 0, none⟩) 1 1), (.slice A100 (((qs ++ [(Stand.mk sq dg (IntKind.wrap .i64 (4 + ((bringI p.view 3)))))])).length) cap101)]), (b6, 28, dg.cells), (b5, 46, [(.bool p.other), (.bool p.same), (.int .u8 (((p.b).toNat : Int))), (.int .i64 p.view), (.slice A3 p.proposed.length cap4)])] ++ (Option.toList o102 ++ [])) := hB
     refine wlThen ?_
     refine wcRet ?_
     obtain ⟨G, hg105, hC, hB, hs104⟩ := Ow.freeze' (bl := [(b13, 49, [(.int .i64 nd), (.int .i64 1), (.int .i64 0), (.slice A11 (([baseI]).length) cap12), (.slice (some ⟨b96, 0, none⟩) 1 1), (.slice A100 (((qs ++ [(Stand.mk sq dg (IntKind.wrap .i64 (4 + ((bringI p.view 3)))))])).length) cap101)]), (b7, 49, [(.int .i64 nd), (.int .i64 1), (.int .i64 0), (.slice A11 (([baseI]).length) cap12), (.slice (some ⟨b96, 0, none⟩) 1 1), (.slice A100 (((qs ++ [(Stand.mk sq dg (IntKind.wrap .i64 (4 + ((bringI p.view 3)))))])).length) cap101)]), (b6, 28, dg.cells), (b5, 46, [(.bool p.other), (.bool p.same), (.int .u8 (((p.b).toNat : Int))), (.int .i64 p.view), (.slice A3 p.proposed.length cap4)])]) (r := []) hO103 hC (Nat.le_refl _) hB (by have q := toldQ_len hq; simp [maxL]; omega)
     replace hs2 := hs2.mono hg105; replace r9 := r9.mono hg105; replace hs97 := hs97.mono hg105
     exact fun ac_ ha => hQ _ _ _ (results1 ha rfl ⟨_, _, [(.int .i64 nd), (.int .i64 1), (.int .i64 0), (.slice A11 (([baseI]).length) cap12), (.slice (some ⟨b96, 0, none⟩) 1 1), (.slice A100 (((qs ++ [(Stand.mk sq dg (IntKind.wrap .i64 (4 + ((bringI p.view 3)))))])).length) cap101)], rfl, row49, rfl, hB.range (i := 1) (m := 6) rfl rfl, rfl⟩) ha.df (endG hC (by rw [show toldI p nd sq dg kp = (Change.mk nd 1 0 ([baseI]) ([(Stand.mk sq dg (IntKind.wrap .i64 (4 + ((bringI p.view 3)))))]) ((qs ++ [(Stand.mk sq dg (IntKind.wrap .i64 (4 + ((bringI p.view 3)))))]))) from (by unfold toldI; rw [toldQ_end hq hk3 (by first | exact .inl h80 | exact .inr h80) hkl]; simp only [h81, h82, Bool.and_true, Bool.and_false, Bool.true_and, Bool.false_and, Bool.not_true, Bool.not_false, Bool.or_true, Bool.true_or, Bool.or_false, cond_true, cond_false]; first | done | rfl | (exfalso; simp_all; done))]; exact ⟨_, rfl, (Change.mkIs (x := (Change.mk nd 1 0 ([baseI]) ([(Stand.mk sq dg (IntKind.wrap .i64 (4 + ((bringI p.view 3)))))]) ((qs ++ [(Stand.mk sq dg (IntKind.wrap .i64 (4 + ((bringI p.view 3)))))])))) r9 hs97 hs104)⟩))
   ·
    skip
    refine wlOn rfl rfl ?_
    refine wlVal (opMove rfl) rfl ?_
    refine wlOn rfl rfl ?_
    refine wlVal (opNot rfl) rfl ?_
    refine wlVal (opPickT rfl rfl) rfl ?_
    refine wlVal (opMove rfl) rfl ?_
    cases h106 : kp
    ·
     skip
     refine wlOn rfl rfl ?_
     refine wlVal (opFieldAddr rfl fo46_1) rfl ?_
     refine wlOn rfl rfl ?_
     refine wlVal (opLoadOne (v := (.bool p.same)) rfl (hB.cell (i := 3) rfl rfl) one4) rfl ?_
     refine wlOn rfl rfl ?_
     refine wlVal (opNot rfl) rfl ?_
     refine wlVal (opPickT rfl rfl) rfl ?_
     refine wlThen ?_
     cases h107 : p.same
     ·
      skip
      refine wcCondT rfl ?_
      refine wcSeq (wcRegion ?_)
      refine wlVal (opFieldAddr rfl fo46_3) rfl ?_
      refine wlVal (opLoadOne (v := (.int .i64 p.view)) rfl (hB.cell (i := 3) rfl rfl) one3) rfl ?_
      refine wlVal (opMove rfl) rfl ?_
      refine wlCallS hC hB rfl co15 rfl rfl (bring_ret _ _ hC.holds p.view 4) ?_; intro w hk hC hB
      refine wlVal (opAssign rfl) rfl ?_
      refine wlThen (wcRegion ?_)
      refine wlVal (opMove rfl) rfl ?_
      refine wlVal (opFieldAddr rfl fo46_2) rfl ?_
      refine wlVal (opLoadOne (v := (.int .u8 (((p.b).toNat : Int)))) rfl (hB.cell (i := 3) rfl rfl) one5) rfl ?_
      refine wlVal (opAndU8 (a := p.b) (b := (7 : UInt8)) rfl rfl) rfl ?_
      refine wlVal (opAddU8 (a := (100 : UInt8)) (b := (p.b &&& (7 : UInt8))) rfl rfl) rfl ?_
      refine wlCallS hC hB rfl co16 rfl rfl (digest_ret _ _ hC.holds (((100 : UInt8) + (p.b &&& (7 : UInt8))))) ?_; intro w hk hC hB
      refine wlVal (opMove rfl) rfl ?_
      refine wlVal (opBuild (ps := [(0, .tmp 81), (1, .tmp 86), (2, .tmp 87)]) (cs := ((.int .i64 sq) :: (((digI (((100 : UInt8) + (p.b &&& (7 : UInt8)))))).cells ++ ((.int .i64 (((bringI p.view 4)))) :: [])))) so58 zero58 rfl rfl (by simp [buildCells, Value.cells])) rfl ?_
      refine wlBuildSlice (α := Stand) (ps := [(0, .tmp 88)]) (xs := [(Stand.mk sq ((digI (((100 : UInt8) + (p.b &&& (7 : UInt8)))))) (((bringI p.view 4))))]) (rows := [((.int .i64 sq) :: (((digI (((100 : UInt8) + (p.b &&& (7 : UInt8)))))).cells ++ ((.int .i64 (((bringI p.view 4)))) :: [])))]) elo47 rfl rfl hC hB rfl rfl rfl ⟨rfl, trivial⟩ rfl ?_; intro b108 G w hk hC hB hs109
      replace hs2 := hs2.mono hk.gle; replace r9 := r9.mono hk.gle; replace hOqs := hOqs.mono hk.gle
      refine wlVal (opFieldAddr rfl fo49_4) rfl ?_
      refine wlStore 0 (vs := [(.slice (some ⟨b108, 0, none⟩) 1 1)]) (cs := [(.int .i64 nd), (.int .i64 1), (.int .i64 0), (.slice A11 (([baseI]).length) cap12), (.slice none 0 0), (.slice qsA qs.length qsC)]) (cs' := [(.int .i64 nd), (.int .i64 1), (.int .i64 0), (.slice A11 (([baseI]).length) cap12), (.slice (some ⟨b108, 0, none⟩) 1 1), (.slice qsA qs.length qsC)]) hC hB rfl rfl rfl sz47 rfl rfl rfl (by simp [Mark.cells, Stand.cells]) rfl rfl ?_; intro w hC hB
      replace hB : Bxs G w w0.heap.size ([(b13, 49, [(.int .i64 nd), (.int .i64 1), (.int .i64 0), (.slice A11 (([baseI]).length) cap12), (.slice (some ⟨b108, 0, none⟩) 1 1), (.slice qsA qs.length qsC)]), (b7, 49, [(.int .i64 0), (.int .i64 0), (.int .i64 0), (.slice none 0 0), (.slice none 0 0), (.slice none 0 0)]), (b6, 28, dg.cells), (b5, 46, [(.bool p.other), (.bool p.same), (.int .u8 (((p.b).toNat : Int))), (.int .i64 p.view), (.slice A3 p.proposed.length cap4)])] ++ (Option.toList qsO ++ [])) := hB
      refine wlThen (wcSeq (wcSeq (wcRegion ?_)))
      refine wlVal (opMove rfl) rfl ?_
      refine wlVal (opMove rfl) rfl ?_
      refine wlOn rfl rfl ?_
      refine wlVal (opFieldAddr rfl fo46_1) rfl ?_
      refine wlOn rfl rfl ?_
      refine wlVal (opLoadOne (v := (.bool p.same)) rfl (hB.cell (i := 3) rfl rfl) one4) rfl ?_
      refine wlVal (opPickF rfl rfl) rfl ?_
      refine wlThen ?_
      cases h110 : p.same
      ·
       skip
       refine wcCondF rfl ?_
       refine wcSkip ?_
       refine wcOf ?_
       refine wcSeq (wcRegion ?_)
       refine wlVal (opLoadRow (cs := [(.int .i64 nd), (.int .i64 1), (.int .i64 0), (.slice A11 (([baseI]).length) cap12), (.slice (some ⟨b108, 0, none⟩) 1 1), (.slice qsA qs.length qsC)]) rfl (hB.range (i := 0) (m := 6) rfl rfl) row49 rfl) rfl ?_
       refine wlStore 1 (vs := [(.int .i64 nd), (.int .i64 1), (.int .i64 0), (.slice A11 (([baseI]).length) cap12), (.slice (some ⟨b108, 0, none⟩) 1 1), (.slice qsA qs.length qsC)]) (cs := [(.int .i64 0), (.int .i64 0), (.int .i64 0), (.slice none 0 0), (.slice none 0 0), (.slice none 0 0)]) (cs' := [(.int .i64 nd), (.int .i64 1), (.int .i64 0), (.slice A11 (([baseI]).length) cap12), (.slice (some ⟨b108, 0, none⟩) 1 1), (.slice qsA qs.length qsC)]) hC hB rfl rfl rfl sz49 rfl rfl rfl (by simp [Mark.cells, Stand.cells]) rfl rfl ?_; intro w hC hB
       replace hB : Bxs G w w0.heap.size ([(b13, 49, [(.int .i64 nd), (.int .i64 1), (.int .i64 0), (.slice A11 (([baseI]).length) cap12), (.slice (some ⟨b108, 0, none⟩) 1 1), (.slice qsA qs.length qsC)]), (b7, 49, [(.int .i64 nd), (.int .i64 1), (.int .i64 0), (.slice A11 (([baseI]).length) cap12), (.slice (some ⟨b108, 0, none⟩) 1 1), (.slice qsA qs.length qsC)]), (b6, 28, dg.cells), (b5, 46, [(.bool p.other), (.bool p.same), (.int .u8 (((p.b).toNat : Int))), (.int .i64 p.view), (.slice A3 p.proposed.length cap4)])] ++ (Option.toList qsO ++ [])) := hB
       refine wlThen ?_
       refine wcRet ?_
       obtain ⟨G, hg112, hC, hB, hs111⟩ := Ow.freeze' (bl := [(b13, 49, [(.int .i64 nd), (.int .i64 1), (.int .i64 0), (.slice A11 (([baseI]).length) cap12), (.slice (some ⟨b108, 0, none⟩) 1 1), (.slice qsA qs.length qsC)]), (b7, 49, [(.int .i64 nd), (.int .i64 1), (.int .i64 0), (.slice A11 (([baseI]).length) cap12), (.slice (some ⟨b108, 0, none⟩) 1 1), (.slice qsA qs.length qsC)]), (b6, 28, dg.cells), (b5, 46, [(.bool p.other), (.bool p.same), (.int .u8 (((p.b).toNat : Int))), (.int .i64 p.view), (.slice A3 p.proposed.length cap4)])]) (r := []) hOqs hC (Nat.le_refl _) hB (by have q := toldQ_len hq; simp [maxL]; omega)
       replace hs2 := hs2.mono hg112; replace r9 := r9.mono hg112; replace hs109 := hs109.mono hg112
       exact fun ac_ ha => hQ _ _ _ (results1 ha rfl ⟨_, _, [(.int .i64 nd), (.int .i64 1), (.int .i64 0), (.slice A11 (([baseI]).length) cap12), (.slice (some ⟨b108, 0, none⟩) 1 1), (.slice qsA qs.length qsC)], rfl, row49, rfl, hB.range (i := 1) (m := 6) rfl rfl, rfl⟩) ha.df (endG hC (by rw [show toldI p nd sq dg kp = (Change.mk nd 1 0 ([baseI]) ([(Stand.mk sq ((digI (((100 : UInt8) + (p.b &&& (7 : UInt8)))))) (((bringI p.view 4))))]) qs) from (by unfold toldI; rw [toldQ_end hq hk3 (by first | exact .inl h80 | exact .inr h80) hkl]; simp only [h81, h106, h107, h110, Bool.and_true, Bool.and_false, Bool.true_and, Bool.false_and, Bool.not_true, Bool.not_false, Bool.or_true, Bool.true_or, Bool.or_false, cond_true, cond_false]; first | done | rfl | (exfalso; simp_all; done))]; exact ⟨_, rfl, (Change.mkIs (x := (Change.mk nd 1 0 ([baseI]) ([(Stand.mk sq ((digI (((100 : UInt8) + (p.b &&& (7 : UInt8)))))) (((bringI p.view 4))))]) qs)) r9 hs109 hs111)⟩))
      ·
       skip
       refine wcCondT rfl ?_
       refine wcSeq (wcRegion ?_)
       refine wlVal (opMove rfl) rfl ?_
       refine wlVal (opFieldAddr rfl fo46_3) rfl ?_
       refine wlVal (opLoadOne (v := (.int .i64 p.view)) rfl (hB.cell (i := 3) rfl rfl) one3) rfl ?_
       refine wlCallS hC hB rfl co15 rfl rfl (bring_ret _ _ hC.holds p.view 3) ?_; intro w hk hC hB
       refine wlVal (opAdd rfl rfl) rfl ?_
       refine wlVal (opAssign rfl) rfl ?_
       refine wlThen (wcSeq (wcRegion ?_))
       refine wlVal (opMove rfl) rfl ?_
       refine wlVal (opLoadRow (cs := dg.cells) rfl (hB.range (i := 2) (m := 32) rfl (by simp [Mark.cells, Stand.cells])) row28 (by simp [Mark.cells, Stand.cells])) rfl ?_
       refine wlVal (opMove rfl) rfl ?_
       refine wlVal (opBuild (ps := [(0, .tmp 101), (1, .tmp 102), (2, .tmp 103)]) (cs := ((.int .i64 sq) :: (dg.cells ++ ((.int .i64 (IntKind.wrap .i64 (4 + ((bringI p.view 3))))) :: [])))) so58 zero58 rfl rfl (by simp [buildCells, Value.cells])) rfl ?_
       refine wlBuildSlice (α := Stand) (ps := [(0, .tmp 104)]) (xs := [(Stand.mk sq dg (IntKind.wrap .i64 (4 + ((bringI p.view 3)))))]) (rows := [((.int .i64 sq) :: (dg.cells ++ ((.int .i64 (IntKind.wrap .i64 (4 + ((bringI p.view 3))))) :: [])))]) elo47 rfl rfl hC hB rfl rfl rfl ⟨rfl, trivial⟩ rfl ?_; intro b113 G w hk hC hB hs114
       replace hs2 := hs2.mono hk.gle; replace r9 := r9.mono hk.gle; replace hOqs := hOqs.mono hk.gle
       refine wlVal (opFieldAddr rfl fo49_4) rfl ?_
       refine wlStore 0 (vs := [(.slice (some ⟨b113, 0, none⟩) 1 1)]) (cs := [(.int .i64 nd), (.int .i64 1), (.int .i64 0), (.slice A11 (([baseI]).length) cap12), (.slice (some ⟨b108, 0, none⟩) 1 1), (.slice qsA qs.length qsC)]) (cs' := [(.int .i64 nd), (.int .i64 1), (.int .i64 0), (.slice A11 (([baseI]).length) cap12), (.slice (some ⟨b113, 0, none⟩) 1 1), (.slice qsA qs.length qsC)]) hC hB rfl rfl rfl sz47 rfl rfl rfl (by simp [Mark.cells, Stand.cells]) rfl rfl ?_; intro w hC hB
       replace hB : Bxs G w w0.heap.size ([(b13, 49, [(.int .i64 nd), (.int .i64 1), (.int .i64 0), (.slice A11 (([baseI]).length) cap12), (.slice (some ⟨b113, 0, none⟩) 1 1), (.slice qsA qs.length qsC)]), (b7, 49, [(.int .i64 0), (.int .i64 0), (.int .i64 0), (.slice none 0 0), (.slice none 0 0), (.slice none 0 0)]), (b6, 28, dg.cells), (b5, 46, [(.bool p.other), (.bool p.same), (.int .u8 (((p.b).toNat : Int))), (.int .i64 p.view), (.slice A3 p.proposed.length cap4)])] ++ (Option.toList qsO ++ [])) := hB
       refine wlThen (wcRegion ?_)
       refine wlVal (opFieldAddr rfl fo49_5) rfl ?_
       refine wlVal (opLoadOne (v := (.slice qsA qs.length qsC)) rfl (hB.cell (i := 0) rfl rfl) one47) rfl ?_
       refine wlVal (opMove rfl) rfl ?_
       refine wlVal (opLoadRow (cs := dg.cells) rfl (hB.range (i := 2) (m := 32) rfl (by simp [Mark.cells, Stand.cells])) row28 (by simp [Mark.cells, Stand.cells])) rfl ?_
       refine wlVal (opMove rfl) rfl ?_
       refine wlVal (opBuild (ps := [(0, .tmp 109), (1, .tmp 110), (2, .tmp 111)]) (cs := ((.int .i64 sq) :: (dg.cells ++ ((.int .i64 (IntKind.wrap .i64 (4 + ((bringI p.view 3))))) :: [])))) so58 zero58 rfl rfl (by simp [buildCells, Value.cells])) rfl ?_
       refine wlBuildSlice (α := Stand) (ps := [(0, .tmp 112)]) (xs := [(Stand.mk sq dg (IntKind.wrap .i64 (4 + ((bringI p.view 3)))))]) (rows := [((.int .i64 sq) :: (dg.cells ++ ((.int .i64 (IntKind.wrap .i64 (4 + ((bringI p.view 3))))) :: [])))]) elo47 rfl rfl hC hB rfl rfl rfl ⟨rfl, trivial⟩ rfl ?_; intro b115 G w hk hC hB hs116
       replace hs2 := hs2.mono hk.gle; replace r9 := r9.mono hk.gle; replace hOqs := hOqs.mono hk.gle; replace hs114 := hs114.mono hk.gle
       refine wlAppend (α := Stand) (bl := [(b13, 49, [(.int .i64 nd), (.int .i64 1), (.int .i64 0), (.slice A11 (([baseI]).length) cap12), (.slice (some ⟨b113, 0, none⟩) 1 1), (.slice qsA qs.length qsC)]), (b7, 49, [(.int .i64 0), (.int .i64 0), (.int .i64 0), (.slice none 0 0), (.slice none 0 0), (.slice none 0 0)]), (b6, 28, dg.cells), (b5, 46, [(.bool p.other), (.bool p.same), (.int .u8 (((p.b).toNat : Int))), (.int .i64 p.view), (.slice A3 p.proposed.length cap4)])]) (o := qsO) (r := []) elo47 hC hB rfl rfl hOqs hs116 (by have q := toldQ_len hq; simp; omega) rfl rfl ?_; intro A117 cap118 o119 w hC hB hO120
       refine wlVal (opFieldAddr rfl fo49_5) rfl ?_
       refine wlStore 0 (vs := [(.slice A117 (((qs ++ [(Stand.mk sq dg (IntKind.wrap .i64 (4 + ((bringI p.view 3)))))])).length) cap118)]) (cs := [(.int .i64 nd), (.int .i64 1), (.int .i64 0), (.slice A11 (([baseI]).length) cap12), (.slice (some ⟨b113, 0, none⟩) 1 1), (.slice qsA qs.length qsC)]) (cs' := [(.int .i64 nd), (.int .i64 1), (.int .i64 0), (.slice A11 (([baseI]).length) cap12), (.slice (some ⟨b113, 0, none⟩) 1 1), (.slice A117 (((qs ++ [(Stand.mk sq dg (IntKind.wrap .i64 (4 + ((bringI p.view 3)))))])).length) cap118)]) hC hB rfl rfl rfl sz47 rfl rfl rfl (by simp [Mark.cells, Stand.cells]) rfl rfl ?_; intro w hC hB
       replace hB : Bxs G w w0.heap.size ([(b13, 49, [(.int .i64 nd), (.int .i64 1), (.int .i64 0), (.slice A11 (([baseI]).length) cap12), (.slice (some ⟨b113, 0, none⟩) 1 1), (.slice A117 (((qs ++ [(Stand.mk sq dg (IntKind.wrap .i64 (4 + ((bringI p.view 3)))))])).length) cap118)]), (b7, 49, [(.int .i64 0), (.int .i64 0), (.int .i64 0), (.slice none 0 0), (.slice none 0 0), (.slice none 0 0)]), (b6, 28, dg.cells), (b5, 46, [(.bool p.other), (.bool p.same), (.int .u8 (((p.b).toNat : Int))), (.int .i64 p.view), (.slice A3 p.proposed.length cap4)])] ++ (Option.toList o119 ++ [])) := hB
       refine wlThen (wcSeq (wcRegion ?_))
       refine wlVal (opLoadRow (cs := [(.int .i64 nd), (.int .i64 1), (.int .i64 0), (.slice A11 (([baseI]).length) cap12), (.slice (some ⟨b113, 0, none⟩) 1 1), (.slice A117 (((qs ++ [(Stand.mk sq dg (IntKind.wrap .i64 (4 + ((bringI p.view 3)))))])).length) cap118)]) rfl (hB.range (i := 0) (m := 6) rfl rfl) row49 rfl) rfl ?_
       refine wlStore 1 (vs := [(.int .i64 nd), (.int .i64 1), (.int .i64 0), (.slice A11 (([baseI]).length) cap12), (.slice (some ⟨b113, 0, none⟩) 1 1), (.slice A117 (((qs ++ [(Stand.mk sq dg (IntKind.wrap .i64 (4 + ((bringI p.view 3)))))])).length) cap118)]) (cs := [(.int .i64 0), (.int .i64 0), (.int .i64 0), (.slice none 0 0), (.slice none 0 0), (.slice none 0 0)]) (cs' := [(.int .i64 nd), (.int .i64 1), (.int .i64 0), (.slice A11 (([baseI]).length) cap12), (.slice (some ⟨b113, 0, none⟩) 1 1), (.slice A117 (((qs ++ [(Stand.mk sq dg (IntKind.wrap .i64 (4 + ((bringI p.view 3)))))])).length) cap118)]) hC hB rfl rfl rfl sz49 rfl rfl rfl (by simp [Mark.cells, Stand.cells]) rfl rfl ?_; intro w hC hB
       replace hB : Bxs G w w0.heap.size ([(b13, 49, [(.int .i64 nd), (.int .i64 1), (.int .i64 0), (.slice A11 (([baseI]).length) cap12), (.slice (some ⟨b113, 0, none⟩) 1 1), (.slice A117 (((qs ++ [(Stand.mk sq dg (IntKind.wrap .i64 (4 + ((bringI p.view 3)))))])).length) cap118)]), (b7, 49, [(.int .i64 nd), (.int .i64 1), (.int .i64 0), (.slice A11 (([baseI]).length) cap12), (.slice (some ⟨b113, 0, none⟩) 1 1), (.slice A117 (((qs ++ [(Stand.mk sq dg (IntKind.wrap .i64 (4 + ((bringI p.view 3)))))])).length) cap118)]), (b6, 28, dg.cells), (b5, 46, [(.bool p.other), (.bool p.same), (.int .u8 (((p.b).toNat : Int))), (.int .i64 p.view), (.slice A3 p.proposed.length cap4)])] ++ (Option.toList o119 ++ [])) := hB
       refine wlThen ?_
       refine wcRet ?_
       obtain ⟨G, hg122, hC, hB, hs121⟩ := Ow.freeze' (bl := [(b13, 49, [(.int .i64 nd), (.int .i64 1), (.int .i64 0), (.slice A11 (([baseI]).length) cap12), (.slice (some ⟨b113, 0, none⟩) 1 1), (.slice A117 (((qs ++ [(Stand.mk sq dg (IntKind.wrap .i64 (4 + ((bringI p.view 3)))))])).length) cap118)]), (b7, 49, [(.int .i64 nd), (.int .i64 1), (.int .i64 0), (.slice A11 (([baseI]).length) cap12), (.slice (some ⟨b113, 0, none⟩) 1 1), (.slice A117 (((qs ++ [(Stand.mk sq dg (IntKind.wrap .i64 (4 + ((bringI p.view 3)))))])).length) cap118)]), (b6, 28, dg.cells), (b5, 46, [(.bool p.other), (.bool p.same), (.int .u8 (((p.b).toNat : Int))), (.int .i64 p.view), (.slice A3 p.proposed.length cap4)])]) (r := []) hO120 hC (Nat.le_refl _) hB (by have q := toldQ_len hq; simp [maxL]; omega)
       replace hs2 := hs2.mono hg122; replace r9 := r9.mono hg122; replace hs114 := hs114.mono hg122
       exact fun ac_ ha => hQ _ _ _ (results1 ha rfl ⟨_, _, [(.int .i64 nd), (.int .i64 1), (.int .i64 0), (.slice A11 (([baseI]).length) cap12), (.slice (some ⟨b113, 0, none⟩) 1 1), (.slice A117 (((qs ++ [(Stand.mk sq dg (IntKind.wrap .i64 (4 + ((bringI p.view 3)))))])).length) cap118)], rfl, row49, rfl, hB.range (i := 1) (m := 6) rfl rfl, rfl⟩) ha.df (endG hC (by rw [show toldI p nd sq dg kp = (Change.mk nd 1 0 ([baseI]) ([(Stand.mk sq dg (IntKind.wrap .i64 (4 + ((bringI p.view 3)))))]) ((qs ++ [(Stand.mk sq dg (IntKind.wrap .i64 (4 + ((bringI p.view 3)))))]))) from (by unfold toldI; rw [toldQ_end hq hk3 (by first | exact .inl h80 | exact .inr h80) hkl]; simp only [h81, h106, h107, h110, Bool.and_true, Bool.and_false, Bool.true_and, Bool.false_and, Bool.not_true, Bool.not_false, Bool.or_true, Bool.true_or, Bool.or_false, cond_true, cond_false]; first | done | rfl | (exfalso; simp_all; done))]; exact ⟨_, rfl, (Change.mkIs (x := (Change.mk nd 1 0 ([baseI]) ([(Stand.mk sq dg (IntKind.wrap .i64 (4 + ((bringI p.view 3)))))]) ((qs ++ [(Stand.mk sq dg (IntKind.wrap .i64 (4 + ((bringI p.view 3)))))])))) r9 hs114 hs121)⟩))
     ·
      skip
      refine wcCondF rfl ?_
      refine wcSkip ?_
      refine wcOf ?_
      refine wcSeq (wcSeq (wcRegion ?_))
      refine wlVal (opMove rfl) rfl ?_
      refine wlVal (opMove rfl) rfl ?_
      refine wlOn rfl rfl ?_
      refine wlVal (opFieldAddr rfl fo46_1) rfl ?_
      refine wlOn rfl rfl ?_
      refine wlVal (opLoadOne (v := (.bool p.same)) rfl (hB.cell (i := 3) rfl rfl) one4) rfl ?_
      refine wlVal (opPickF rfl rfl) rfl ?_
      refine wlThen ?_
      cases h123 : p.same
      ·
       skip
       refine wcCondF rfl ?_
       refine wcSkip ?_
       refine wcOf ?_
       refine wcSeq (wcRegion ?_)
       refine wlVal (opLoadRow (cs := [(.int .i64 nd), (.int .i64 1), (.int .i64 0), (.slice A11 (([baseI]).length) cap12), (.slice none 0 0), (.slice qsA qs.length qsC)]) rfl (hB.range (i := 0) (m := 6) rfl rfl) row49 rfl) rfl ?_
       refine wlStore 1 (vs := [(.int .i64 nd), (.int .i64 1), (.int .i64 0), (.slice A11 (([baseI]).length) cap12), (.slice none 0 0), (.slice qsA qs.length qsC)]) (cs := [(.int .i64 0), (.int .i64 0), (.int .i64 0), (.slice none 0 0), (.slice none 0 0), (.slice none 0 0)]) (cs' := [(.int .i64 nd), (.int .i64 1), (.int .i64 0), (.slice A11 (([baseI]).length) cap12), (.slice none 0 0), (.slice qsA qs.length qsC)]) hC hB rfl rfl rfl sz49 rfl rfl rfl (by simp [Mark.cells, Stand.cells]) rfl rfl ?_; intro w hC hB
       replace hB : Bxs G w w0.heap.size ([(b13, 49, [(.int .i64 nd), (.int .i64 1), (.int .i64 0), (.slice A11 (([baseI]).length) cap12), (.slice none 0 0), (.slice qsA qs.length qsC)]), (b7, 49, [(.int .i64 nd), (.int .i64 1), (.int .i64 0), (.slice A11 (([baseI]).length) cap12), (.slice none 0 0), (.slice qsA qs.length qsC)]), (b6, 28, dg.cells), (b5, 46, [(.bool p.other), (.bool p.same), (.int .u8 (((p.b).toNat : Int))), (.int .i64 p.view), (.slice A3 p.proposed.length cap4)])] ++ (Option.toList qsO ++ [])) := hB
       refine wlThen ?_
       refine wcRet ?_
       obtain ⟨G, hg125, hC, hB, hs124⟩ := Ow.freeze' (bl := [(b13, 49, [(.int .i64 nd), (.int .i64 1), (.int .i64 0), (.slice A11 (([baseI]).length) cap12), (.slice none 0 0), (.slice qsA qs.length qsC)]), (b7, 49, [(.int .i64 nd), (.int .i64 1), (.int .i64 0), (.slice A11 (([baseI]).length) cap12), (.slice none 0 0), (.slice qsA qs.length qsC)]), (b6, 28, dg.cells), (b5, 46, [(.bool p.other), (.bool p.same), (.int .u8 (((p.b).toNat : Int))), (.int .i64 p.view), (.slice A3 p.proposed.length cap4)])]) (r := []) hOqs hC (Nat.le_refl _) hB (by have q := toldQ_len hq; simp [maxL]; omega)
       replace hs2 := hs2.mono hg125; replace r9 := r9.mono hg125
       exact fun ac_ ha => hQ _ _ _ (results1 ha rfl ⟨_, _, [(.int .i64 nd), (.int .i64 1), (.int .i64 0), (.slice A11 (([baseI]).length) cap12), (.slice none 0 0), (.slice qsA qs.length qsC)], rfl, row49, rfl, hB.range (i := 1) (m := 6) rfl rfl, rfl⟩) ha.df (endG hC (by rw [show toldI p nd sq dg kp = (Change.mk nd 1 0 ([baseI]) ([]) qs) from (by unfold toldI; rw [toldQ_end hq hk3 (by first | exact .inl h80 | exact .inr h80) hkl]; simp only [h81, h106, h107, h123, Bool.and_true, Bool.and_false, Bool.true_and, Bool.false_and, Bool.not_true, Bool.not_false, Bool.or_true, Bool.true_or, Bool.or_false, cond_true, cond_false]; first | done | rfl | (exfalso; simp_all; done))]; exact ⟨_, rfl, (Change.mkIs (x := (Change.mk nd 1 0 ([baseI]) ([]) qs)) r9 (Sl.nil_ _) hs124)⟩))
      ·
       skip
       refine wcCondT rfl ?_
       refine wcSeq (wcRegion ?_)
       refine wlVal (opMove rfl) rfl ?_
       refine wlVal (opFieldAddr rfl fo46_3) rfl ?_
       refine wlVal (opLoadOne (v := (.int .i64 p.view)) rfl (hB.cell (i := 3) rfl rfl) one3) rfl ?_
       refine wlCallS hC hB rfl co15 rfl rfl (bring_ret _ _ hC.holds p.view 3) ?_; intro w hk hC hB
       refine wlVal (opAdd rfl rfl) rfl ?_
       refine wlVal (opAssign rfl) rfl ?_
       refine wlThen (wcSeq (wcRegion ?_))
       refine wlVal (opMove rfl) rfl ?_
       refine wlVal (opLoadRow (cs := dg.cells) rfl (hB.range (i := 2) (m := 32) rfl (by simp [Mark.cells, Stand.cells])) row28 (by simp [Mark.cells, Stand.cells])) rfl ?_
       refine wlVal (opMove rfl) rfl ?_
       refine wlVal (opBuild (ps := [(0, .tmp 101), (1, .tmp 102), (2, .tmp 103)]) (cs := ((.int .i64 sq) :: (dg.cells ++ ((.int .i64 (IntKind.wrap .i64 (4 + ((bringI p.view 3))))) :: [])))) so58 zero58 rfl rfl (by simp [buildCells, Value.cells])) rfl ?_
       refine wlBuildSlice (α := Stand) (ps := [(0, .tmp 104)]) (xs := [(Stand.mk sq dg (IntKind.wrap .i64 (4 + ((bringI p.view 3)))))]) (rows := [((.int .i64 sq) :: (dg.cells ++ ((.int .i64 (IntKind.wrap .i64 (4 + ((bringI p.view 3))))) :: [])))]) elo47 rfl rfl hC hB rfl rfl rfl ⟨rfl, trivial⟩ rfl ?_; intro b126 G w hk hC hB hs127
       replace hs2 := hs2.mono hk.gle; replace r9 := r9.mono hk.gle; replace hOqs := hOqs.mono hk.gle
       refine wlVal (opFieldAddr rfl fo49_4) rfl ?_
       refine wlStore 0 (vs := [(.slice (some ⟨b126, 0, none⟩) 1 1)]) (cs := [(.int .i64 nd), (.int .i64 1), (.int .i64 0), (.slice A11 (([baseI]).length) cap12), (.slice none 0 0), (.slice qsA qs.length qsC)]) (cs' := [(.int .i64 nd), (.int .i64 1), (.int .i64 0), (.slice A11 (([baseI]).length) cap12), (.slice (some ⟨b126, 0, none⟩) 1 1), (.slice qsA qs.length qsC)]) hC hB rfl rfl rfl sz47 rfl rfl rfl (by simp [Mark.cells, Stand.cells]) rfl rfl ?_; intro w hC hB
       replace hB : Bxs G w w0.heap.size ([(b13, 49, [(.int .i64 nd), (.int .i64 1), (.int .i64 0), (.slice A11 (([baseI]).length) cap12), (.slice (some ⟨b126, 0, none⟩) 1 1), (.slice qsA qs.length qsC)]), (b7, 49, [(.int .i64 0), (.int .i64 0), (.int .i64 0), (.slice none 0 0), (.slice none 0 0), (.slice none 0 0)]), (b6, 28, dg.cells), (b5, 46, [(.bool p.other), (.bool p.same), (.int .u8 (((p.b).toNat : Int))), (.int .i64 p.view), (.slice A3 p.proposed.length cap4)])] ++ (Option.toList qsO ++ [])) := hB
       refine wlThen (wcRegion ?_)
       refine wlVal (opFieldAddr rfl fo49_5) rfl ?_
       refine wlVal (opLoadOne (v := (.slice qsA qs.length qsC)) rfl (hB.cell (i := 0) rfl rfl) one47) rfl ?_
       refine wlVal (opMove rfl) rfl ?_
       refine wlVal (opLoadRow (cs := dg.cells) rfl (hB.range (i := 2) (m := 32) rfl (by simp [Mark.cells, Stand.cells])) row28 (by simp [Mark.cells, Stand.cells])) rfl ?_
       refine wlVal (opMove rfl) rfl ?_
       refine wlVal (opBuild (ps := [(0, .tmp 109), (1, .tmp 110), (2, .tmp 111)]) (cs := ((.int .i64 sq) :: (dg.cells ++ ((.int .i64 (IntKind.wrap .i64 (4 + ((bringI p.view 3))))) :: [])))) so58 zero58 rfl rfl (by simp [buildCells, Value.cells])) rfl ?_
       refine wlBuildSlice (α := Stand) (ps := [(0, .tmp 112)]) (xs := [(Stand.mk sq dg (IntKind.wrap .i64 (4 + ((bringI p.view 3)))))]) (rows := [((.int .i64 sq) :: (dg.cells ++ ((.int .i64 (IntKind.wrap .i64 (4 + ((bringI p.view 3))))) :: [])))]) elo47 rfl rfl hC hB rfl rfl rfl ⟨rfl, trivial⟩ rfl ?_; intro b128 G w hk hC hB hs129
       replace hs2 := hs2.mono hk.gle; replace r9 := r9.mono hk.gle; replace hOqs := hOqs.mono hk.gle; replace hs127 := hs127.mono hk.gle
       refine wlAppend (α := Stand) (bl := [(b13, 49, [(.int .i64 nd), (.int .i64 1), (.int .i64 0), (.slice A11 (([baseI]).length) cap12), (.slice (some ⟨b126, 0, none⟩) 1 1), (.slice qsA qs.length qsC)]), (b7, 49, [(.int .i64 0), (.int .i64 0), (.int .i64 0), (.slice none 0 0), (.slice none 0 0), (.slice none 0 0)]), (b6, 28, dg.cells), (b5, 46, [(.bool p.other), (.bool p.same), (.int .u8 (((p.b).toNat : Int))), (.int .i64 p.view), (.slice A3 p.proposed.length cap4)])]) (o := qsO) (r := []) elo47 hC hB rfl rfl hOqs hs129 (by have q := toldQ_len hq; simp; omega) rfl rfl ?_; intro A130 cap131 o132 w hC hB hO133
       refine wlVal (opFieldAddr rfl fo49_5) rfl ?_
       refine wlStore 0 (vs := [(.slice A130 (((qs ++ [(Stand.mk sq dg (IntKind.wrap .i64 (4 + ((bringI p.view 3)))))])).length) cap131)]) (cs := [(.int .i64 nd), (.int .i64 1), (.int .i64 0), (.slice A11 (([baseI]).length) cap12), (.slice (some ⟨b126, 0, none⟩) 1 1), (.slice qsA qs.length qsC)]) (cs' := [(.int .i64 nd), (.int .i64 1), (.int .i64 0), (.slice A11 (([baseI]).length) cap12), (.slice (some ⟨b126, 0, none⟩) 1 1), (.slice A130 (((qs ++ [(Stand.mk sq dg (IntKind.wrap .i64 (4 + ((bringI p.view 3)))))])).length) cap131)]) hC hB rfl rfl rfl sz47 rfl rfl rfl (by simp [Mark.cells, Stand.cells]) rfl rfl ?_; intro w hC hB
       replace hB : Bxs G w w0.heap.size ([(b13, 49, [(.int .i64 nd), (.int .i64 1), (.int .i64 0), (.slice A11 (([baseI]).length) cap12), (.slice (some ⟨b126, 0, none⟩) 1 1), (.slice A130 (((qs ++ [(Stand.mk sq dg (IntKind.wrap .i64 (4 + ((bringI p.view 3)))))])).length) cap131)]), (b7, 49, [(.int .i64 0), (.int .i64 0), (.int .i64 0), (.slice none 0 0), (.slice none 0 0), (.slice none 0 0)]), (b6, 28, dg.cells), (b5, 46, [(.bool p.other), (.bool p.same), (.int .u8 (((p.b).toNat : Int))), (.int .i64 p.view), (.slice A3 p.proposed.length cap4)])] ++ (Option.toList o132 ++ [])) := hB
       refine wlThen (wcSeq (wcRegion ?_))
       refine wlVal (opLoadRow (cs := [(.int .i64 nd), (.int .i64 1), (.int .i64 0), (.slice A11 (([baseI]).length) cap12), (.slice (some ⟨b126, 0, none⟩) 1 1), (.slice A130 (((qs ++ [(Stand.mk sq dg (IntKind.wrap .i64 (4 + ((bringI p.view 3)))))])).length) cap131)]) rfl (hB.range (i := 0) (m := 6) rfl rfl) row49 rfl) rfl ?_
       refine wlStore 1 (vs := [(.int .i64 nd), (.int .i64 1), (.int .i64 0), (.slice A11 (([baseI]).length) cap12), (.slice (some ⟨b126, 0, none⟩) 1 1), (.slice A130 (((qs ++ [(Stand.mk sq dg (IntKind.wrap .i64 (4 + ((bringI p.view 3)))))])).length) cap131)]) (cs := [(.int .i64 0), (.int .i64 0), (.int .i64 0), (.slice none 0 0), (.slice none 0 0), (.slice none 0 0)]) (cs' := [(.int .i64 nd), (.int .i64 1), (.int .i64 0), (.slice A11 (([baseI]).length) cap12), (.slice (some ⟨b126, 0, none⟩) 1 1), (.slice A130 (((qs ++ [(Stand.mk sq dg (IntKind.wrap .i64 (4 + ((bringI p.view 3)))))])).length) cap131)]) hC hB rfl rfl rfl sz49 rfl rfl rfl (by simp [Mark.cells, Stand.cells]) rfl rfl ?_; intro w hC hB
       replace hB : Bxs G w w0.heap.size ([(b13, 49, [(.int .i64 nd), (.int .i64 1), (.int .i64 0), (.slice A11 (([baseI]).length) cap12), (.slice (some ⟨b126, 0, none⟩) 1 1), (.slice A130 (((qs ++ [(Stand.mk sq dg (IntKind.wrap .i64 (4 + ((bringI p.view 3)))))])).length) cap131)]), (b7, 49, [(.int .i64 nd), (.int .i64 1), (.int .i64 0), (.slice A11 (([baseI]).length) cap12), (.slice (some ⟨b126, 0, none⟩) 1 1), (.slice A130 (((qs ++ [(Stand.mk sq dg (IntKind.wrap .i64 (4 + ((bringI p.view 3)))))])).length) cap131)]), (b6, 28, dg.cells), (b5, 46, [(.bool p.other), (.bool p.same), (.int .u8 (((p.b).toNat : Int))), (.int .i64 p.view), (.slice A3 p.proposed.length cap4)])] ++ (Option.toList o132 ++ [])) := hB
       refine wlThen ?_
       refine wcRet ?_
       obtain ⟨G, hg135, hC, hB, hs134⟩ := Ow.freeze' (bl := [(b13, 49, [(.int .i64 nd), (.int .i64 1), (.int .i64 0), (.slice A11 (([baseI]).length) cap12), (.slice (some ⟨b126, 0, none⟩) 1 1), (.slice A130 (((qs ++ [(Stand.mk sq dg (IntKind.wrap .i64 (4 + ((bringI p.view 3)))))])).length) cap131)]), (b7, 49, [(.int .i64 nd), (.int .i64 1), (.int .i64 0), (.slice A11 (([baseI]).length) cap12), (.slice (some ⟨b126, 0, none⟩) 1 1), (.slice A130 (((qs ++ [(Stand.mk sq dg (IntKind.wrap .i64 (4 + ((bringI p.view 3)))))])).length) cap131)]), (b6, 28, dg.cells), (b5, 46, [(.bool p.other), (.bool p.same), (.int .u8 (((p.b).toNat : Int))), (.int .i64 p.view), (.slice A3 p.proposed.length cap4)])]) (r := []) hO133 hC (Nat.le_refl _) hB (by have q := toldQ_len hq; simp [maxL]; omega)
       replace hs2 := hs2.mono hg135; replace r9 := r9.mono hg135; replace hs127 := hs127.mono hg135
       exact fun ac_ ha => hQ _ _ _ (results1 ha rfl ⟨_, _, [(.int .i64 nd), (.int .i64 1), (.int .i64 0), (.slice A11 (([baseI]).length) cap12), (.slice (some ⟨b126, 0, none⟩) 1 1), (.slice A130 (((qs ++ [(Stand.mk sq dg (IntKind.wrap .i64 (4 + ((bringI p.view 3)))))])).length) cap131)], rfl, row49, rfl, hB.range (i := 1) (m := 6) rfl rfl, rfl⟩) ha.df (endG hC (by rw [show toldI p nd sq dg kp = (Change.mk nd 1 0 ([baseI]) ([(Stand.mk sq dg (IntKind.wrap .i64 (4 + ((bringI p.view 3)))))]) ((qs ++ [(Stand.mk sq dg (IntKind.wrap .i64 (4 + ((bringI p.view 3)))))]))) from (by unfold toldI; rw [toldQ_end hq hk3 (by first | exact .inl h80 | exact .inr h80) hkl]; simp only [h81, h106, h107, h123, Bool.and_true, Bool.and_false, Bool.true_and, Bool.false_and, Bool.not_true, Bool.not_false, Bool.or_true, Bool.true_or, Bool.or_false, cond_true, cond_false]; first | done | rfl | (exfalso; simp_all; done))]; exact ⟨_, rfl, (Change.mkIs (x := (Change.mk nd 1 0 ([baseI]) ([(Stand.mk sq dg (IntKind.wrap .i64 (4 + ((bringI p.view 3)))))]) ((qs ++ [(Stand.mk sq dg (IntKind.wrap .i64 (4 + ((bringI p.view 3)))))])))) r9 hs127 hs134)⟩))
    ·
     skip
     refine wlOff rfl rfl rfl rfl ?_
     refine wlOff rfl rfl rfl rfl ?_
     refine wlOff rfl rfl rfl rfl ?_
     refine wlVal (opPickF rfl rfl) rfl ?_
     refine wlThen ?_
     refine wcCondF rfl ?_
     refine wcSkip ?_
     refine wcOf ?_
     refine wcSeq (wcSeq (wcRegion ?_))
     refine wlVal (opMove rfl) rfl ?_
     refine wlVal (opMove rfl) rfl ?_
     refine wlOff rfl rfl rfl rfl ?_
     refine wlOff rfl rfl rfl rfl ?_
     refine wlVal (opPickT rfl rfl) rfl ?_
     refine wlThen ?_
     refine wcCondT rfl ?_
     refine wcSeq (wcRegion ?_)
     refine wlVal (opMove rfl) rfl ?_
     refine wlVal (opFieldAddr rfl fo46_3) rfl ?_
     refine wlVal (opLoadOne (v := (.int .i64 p.view)) rfl (hB.cell (i := 3) rfl rfl) one3) rfl ?_
     refine wlCallS hC hB rfl co15 rfl rfl (bring_ret _ _ hC.holds p.view 3) ?_; intro w hk hC hB
     refine wlVal (opAdd rfl rfl) rfl ?_
     refine wlVal (opAssign rfl) rfl ?_
     refine wlThen (wcSeq (wcRegion ?_))
     refine wlVal (opMove rfl) rfl ?_
     refine wlVal (opLoadRow (cs := dg.cells) rfl (hB.range (i := 2) (m := 32) rfl (by simp [Mark.cells, Stand.cells])) row28 (by simp [Mark.cells, Stand.cells])) rfl ?_
     refine wlVal (opMove rfl) rfl ?_
     refine wlVal (opBuild (ps := [(0, .tmp 101), (1, .tmp 102), (2, .tmp 103)]) (cs := ((.int .i64 sq) :: (dg.cells ++ ((.int .i64 (IntKind.wrap .i64 (4 + ((bringI p.view 3))))) :: [])))) so58 zero58 rfl rfl (by simp [buildCells, Value.cells])) rfl ?_
     refine wlBuildSlice (α := Stand) (ps := [(0, .tmp 104)]) (xs := [(Stand.mk sq dg (IntKind.wrap .i64 (4 + ((bringI p.view 3)))))]) (rows := [((.int .i64 sq) :: (dg.cells ++ ((.int .i64 (IntKind.wrap .i64 (4 + ((bringI p.view 3))))) :: [])))]) elo47 rfl rfl hC hB rfl rfl rfl ⟨rfl, trivial⟩ rfl ?_; intro b136 G w hk hC hB hs137
     replace hs2 := hs2.mono hk.gle; replace r9 := r9.mono hk.gle; replace hOqs := hOqs.mono hk.gle
     refine wlVal (opFieldAddr rfl fo49_4) rfl ?_
     refine wlStore 0 (vs := [(.slice (some ⟨b136, 0, none⟩) 1 1)]) (cs := [(.int .i64 nd), (.int .i64 1), (.int .i64 0), (.slice A11 (([baseI]).length) cap12), (.slice none 0 0), (.slice qsA qs.length qsC)]) (cs' := [(.int .i64 nd), (.int .i64 1), (.int .i64 0), (.slice A11 (([baseI]).length) cap12), (.slice (some ⟨b136, 0, none⟩) 1 1), (.slice qsA qs.length qsC)]) hC hB rfl rfl rfl sz47 rfl rfl rfl (by simp [Mark.cells, Stand.cells]) rfl rfl ?_; intro w hC hB
     replace hB : Bxs G w w0.heap.size ([(b13, 49, [(.int .i64 nd), (.int .i64 1), (.int .i64 0), (.slice A11 (([baseI]).length) cap12), (.slice (some ⟨b136, 0, none⟩) 1 1), (.slice qsA qs.length qsC)]), (b7, 49, [(.int .i64 0), (.int .i64 0), (.int .i64 0), (.slice none 0 0), (.slice none 0 0), (.slice none 0 0)]), (b6, 28, dg.cells), (b5, 46, [(.bool p.other), (.bool p.same), (.int .u8 (((p.b).toNat : Int))), (.int .i64 p.view), (.slice A3 p.proposed.length cap4)])] ++ (Option.toList qsO ++ [])) := hB
     refine wlThen (wcRegion ?_)
     refine wlVal (opFieldAddr rfl fo49_5) rfl ?_
     refine wlVal (opLoadOne (v := (.slice qsA qs.length qsC)) rfl (hB.cell (i := 0) rfl rfl) one47) rfl ?_
     refine wlVal (opMove rfl) rfl ?_
     refine wlVal (opLoadRow (cs := dg.cells) rfl (hB.range (i := 2) (m := 32) rfl (by simp [Mark.cells, Stand.cells])) row28 (by simp [Mark.cells, Stand.cells])) rfl ?_
     refine wlVal (opMove rfl) rfl ?_
     refine wlVal (opBuild (ps := [(0, .tmp 109), (1, .tmp 110), (2, .tmp 111)]) (cs := ((.int .i64 sq) :: (dg.cells ++ ((.int .i64 (IntKind.wrap .i64 (4 + ((bringI p.view 3))))) :: [])))) so58 zero58 rfl rfl (by simp [buildCells, Value.cells])) rfl ?_
     refine wlBuildSlice (α := Stand) (ps := [(0, .tmp 112)]) (xs := [(Stand.mk sq dg (IntKind.wrap .i64 (4 + ((bringI p.view 3)))))]) (rows := [((.int .i64 sq) :: (dg.cells ++ ((.int .i64 (IntKind.wrap .i64 (4 + ((bringI p.view 3))))) :: [])))]) elo47 rfl rfl hC hB rfl rfl rfl ⟨rfl, trivial⟩ rfl ?_; intro b138 G w hk hC hB hs139
     replace hs2 := hs2.mono hk.gle; replace r9 := r9.mono hk.gle; replace hOqs := hOqs.mono hk.gle; replace hs137 := hs137.mono hk.gle
     refine wlAppend (α := Stand) (bl := [(b13, 49, [(.int .i64 nd), (.int .i64 1), (.int .i64 0), (.slice A11 (([baseI]).length) cap12), (.slice (some ⟨b136, 0, none⟩) 1 1), (.slice qsA qs.length qsC)]), (b7, 49, [(.int .i64 0), (.int .i64 0), (.int .i64 0), (.slice none 0 0), (.slice none 0 0), (.slice none 0 0)]), (b6, 28, dg.cells), (b5, 46, [(.bool p.other), (.bool p.same), (.int .u8 (((p.b).toNat : Int))), (.int .i64 p.view), (.slice A3 p.proposed.length cap4)])]) (o := qsO) (r := []) elo47 hC hB rfl rfl hOqs hs139 (by have q := toldQ_len hq; simp; omega) rfl rfl ?_; intro A140 cap141 o142 w hC hB hO143
     refine wlVal (opFieldAddr rfl fo49_5) rfl ?_
     refine wlStore 0 (vs := [(.slice A140 (((qs ++ [(Stand.mk sq dg (IntKind.wrap .i64 (4 + ((bringI p.view 3)))))])).length) cap141)]) (cs := [(.int .i64 nd), (.int .i64 1), (.int .i64 0), (.slice A11 (([baseI]).length) cap12), (.slice (some ⟨b136, 0, none⟩) 1 1), (.slice qsA qs.length qsC)]) (cs' := [(.int .i64 nd), (.int .i64 1), (.int .i64 0), (.slice A11 (([baseI]).length) cap12), (.slice (some ⟨b136, 0, none⟩) 1 1), (.slice A140 (((qs ++ [(Stand.mk sq dg (IntKind.wrap .i64 (4 + ((bringI p.view 3)))))])).length) cap141)]) hC hB rfl rfl rfl sz47 rfl rfl rfl (by simp [Mark.cells, Stand.cells]) rfl rfl ?_; intro w hC hB
     replace hB : Bxs G w w0.heap.size ([(b13, 49, [(.int .i64 nd), (.int .i64 1), (.int .i64 0), (.slice A11 (([baseI]).length) cap12), (.slice (some ⟨b136, 0, none⟩) 1 1), (.slice A140 (((qs ++ [(Stand.mk sq dg (IntKind.wrap .i64 (4 + ((bringI p.view 3)))))])).length) cap141)]), (b7, 49, [(.int .i64 0), (.int .i64 0), (.int .i64 0), (.slice none 0 0), (.slice none 0 0), (.slice none 0 0)]), (b6, 28, dg.cells), (b5, 46, [(.bool p.other), (.bool p.same), (.int .u8 (((p.b).toNat : Int))), (.int .i64 p.view), (.slice A3 p.proposed.length cap4)])] ++ (Option.toList o142 ++ [])) := hB
     refine wlThen (wcSeq (wcRegion ?_))
     refine wlVal (opLoadRow (cs := [(.int .i64 nd), (.int .i64 1), (.int .i64 0), (.slice A11 (([baseI]).length) cap12), (.slice (some ⟨b136, 0, none⟩) 1 1), (.slice A140 (((qs ++ [(Stand.mk sq dg (IntKind.wrap .i64 (4 + ((bringI p.view 3)))))])).length) cap141)]) rfl (hB.range (i := 0) (m := 6) rfl rfl) row49 rfl) rfl ?_
     refine wlStore 1 (vs := [(.int .i64 nd), (.int .i64 1), (.int .i64 0), (.slice A11 (([baseI]).length) cap12), (.slice (some ⟨b136, 0, none⟩) 1 1), (.slice A140 (((qs ++ [(Stand.mk sq dg (IntKind.wrap .i64 (4 + ((bringI p.view 3)))))])).length) cap141)]) (cs := [(.int .i64 0), (.int .i64 0), (.int .i64 0), (.slice none 0 0), (.slice none 0 0), (.slice none 0 0)]) (cs' := [(.int .i64 nd), (.int .i64 1), (.int .i64 0), (.slice A11 (([baseI]).length) cap12), (.slice (some ⟨b136, 0, none⟩) 1 1), (.slice A140 (((qs ++ [(Stand.mk sq dg (IntKind.wrap .i64 (4 + ((bringI p.view 3)))))])).length) cap141)]) hC hB rfl rfl rfl sz49 rfl rfl rfl (by simp [Mark.cells, Stand.cells]) rfl rfl ?_; intro w hC hB
     replace hB : Bxs G w w0.heap.size ([(b13, 49, [(.int .i64 nd), (.int .i64 1), (.int .i64 0), (.slice A11 (([baseI]).length) cap12), (.slice (some ⟨b136, 0, none⟩) 1 1), (.slice A140 (((qs ++ [(Stand.mk sq dg (IntKind.wrap .i64 (4 + ((bringI p.view 3)))))])).length) cap141)]), (b7, 49, [(.int .i64 nd), (.int .i64 1), (.int .i64 0), (.slice A11 (([baseI]).length) cap12), (.slice (some ⟨b136, 0, none⟩) 1 1), (.slice A140 (((qs ++ [(Stand.mk sq dg (IntKind.wrap .i64 (4 + ((bringI p.view 3)))))])).length) cap141)]), (b6, 28, dg.cells), (b5, 46, [(.bool p.other), (.bool p.same), (.int .u8 (((p.b).toNat : Int))), (.int .i64 p.view), (.slice A3 p.proposed.length cap4)])] ++ (Option.toList o142 ++ [])) := hB
     refine wlThen ?_
     refine wcRet ?_
     obtain ⟨G, hg145, hC, hB, hs144⟩ := Ow.freeze' (bl := [(b13, 49, [(.int .i64 nd), (.int .i64 1), (.int .i64 0), (.slice A11 (([baseI]).length) cap12), (.slice (some ⟨b136, 0, none⟩) 1 1), (.slice A140 (((qs ++ [(Stand.mk sq dg (IntKind.wrap .i64 (4 + ((bringI p.view 3)))))])).length) cap141)]), (b7, 49, [(.int .i64 nd), (.int .i64 1), (.int .i64 0), (.slice A11 (([baseI]).length) cap12), (.slice (some ⟨b136, 0, none⟩) 1 1), (.slice A140 (((qs ++ [(Stand.mk sq dg (IntKind.wrap .i64 (4 + ((bringI p.view 3)))))])).length) cap141)]), (b6, 28, dg.cells), (b5, 46, [(.bool p.other), (.bool p.same), (.int .u8 (((p.b).toNat : Int))), (.int .i64 p.view), (.slice A3 p.proposed.length cap4)])]) (r := []) hO143 hC (Nat.le_refl _) hB (by have q := toldQ_len hq; simp [maxL]; omega)
     replace hs2 := hs2.mono hg145; replace r9 := r9.mono hg145; replace hs137 := hs137.mono hg145
     exact fun ac_ ha => hQ _ _ _ (results1 ha rfl ⟨_, _, [(.int .i64 nd), (.int .i64 1), (.int .i64 0), (.slice A11 (([baseI]).length) cap12), (.slice (some ⟨b136, 0, none⟩) 1 1), (.slice A140 (((qs ++ [(Stand.mk sq dg (IntKind.wrap .i64 (4 + ((bringI p.view 3)))))])).length) cap141)], rfl, row49, rfl, hB.range (i := 1) (m := 6) rfl rfl, rfl⟩) ha.df (endG hC (by rw [show toldI p nd sq dg kp = (Change.mk nd 1 0 ([baseI]) ([(Stand.mk sq dg (IntKind.wrap .i64 (4 + ((bringI p.view 3)))))]) ((qs ++ [(Stand.mk sq dg (IntKind.wrap .i64 (4 + ((bringI p.view 3)))))]))) from (by unfold toldI; rw [toldQ_end hq hk3 (by first | exact .inl h80 | exact .inr h80) hkl]; simp only [h81, h106, Bool.and_true, Bool.and_false, Bool.true_and, Bool.false_and, Bool.not_true, Bool.not_false, Bool.or_true, Bool.true_or, Bool.or_false, cond_true, cond_false]; first | done | rfl | (exfalso; simp_all; done))]; exact ⟨_, rfl, (Change.mkIs (x := (Change.mk nd 1 0 ([baseI]) ([(Stand.mk sq dg (IntKind.wrap .i64 (4 + ((bringI p.view 3)))))]) ((qs ++ [(Stand.mk sq dg (IntKind.wrap .i64 (4 + ((bringI p.view 3)))))])))) r9 hs137 hs144)⟩))
  ·
   skip
   refine wcCondT rfl ?_
   refine wcSkip ?_
   refine wcOf ?_
   refine wcSeq ?_
   refine wcBlock (wcSeq (wcRegion ?_))
   refine wlVal (opMove rfl) rfl ?_
   refine wlVal (opAssign rfl) rfl ?_
   refine wlThen (wcSeq (wcSeq (wcRegion ?_)))
   refine wlVal (opMove rfl) rfl ?_
   refine wlVal (opFieldAddr rfl fo46_4) rfl ?_
   refine wlVal (opLoadOne (v := (.slice A3 p.proposed.length cap4)) rfl (hB.cell (i := 3) rfl rfl) one44) rfl ?_
   refine wlVal (opLen rfl isl44) rfl ?_
   refine wlVal (opDecr rfl rfl (by have q := of_decide_eq_true h14; omega) (by have q := of_decide_eq_true h14; have := hs2.le; unfold maxL at this; omega)) rfl ?_
   refine wlVal (opEql rfl rfl) rfl ?_
   refine wlVal (opMove rfl) rfl ?_
   cases h146 : (((k : Nat) : Int)) == ((((p.proposed.length - 1) : Nat) : Int))
   ·
    skip
    refine wlOff rfl rfl rfl rfl ?_
    refine wlOff rfl rfl rfl rfl ?_
    refine wlVal (opPickF rfl rfl) rfl ?_
    refine wlVal (opMove rfl) rfl ?_
    refine wlOff rfl rfl rfl rfl ?_
    refine wlOff rfl rfl rfl rfl ?_
    refine wlOff rfl rfl rfl rfl ?_
    refine wlVal (opPickF rfl rfl) rfl ?_
    refine wlThen ?_
    refine wcCondF rfl ?_
    refine wcSkip ?_
    refine wcOf ?_
    obtain ⟨x147, hx148⟩ : ∃ y_, p.proposed[k]? = some y_ := ⟨_, List.getElem?_eq_getElem (of_decide_eq_true h14)⟩
    obtain ⟨b149, o150, row151, hA154, hr152, hi153⟩ := hs2.elem hx148; subst hA154
    obtain rfl := hi153
    refine wcDraw fmix (by kernel_rfl) (by kernel_rfl) (vAt [(fun _ v_ => v_ = (.pointer (some ⟨b13, 5, none⟩))), (fun _ v_ => v_ = (.slice qsA qs.length qsC)), (fun _ v_ => v_ = (.int .i64 sq)), (fun _ v_ => v_ = (.pointer (some ⟨b5, 4, none⟩))), (fun _ v_ => v_ = (.slice (some ⟨b149, o150, none⟩) p.proposed.length cap4)), (fun _ v_ => v_ = (.int .i64 (((k : Nat) : Int)))), (fun _ v_ => v_ = (.pointer (some ⟨b149, o150 + k * 1, none⟩))), (fun _ v_ => v_ = (.int .u8 (((x147).toNat : Int)))), (fun _ v_ => v_ = (.int .u8 ((((x147 &&& (7 : UInt8))).toNat : Int)))), (fun _ v_ => v_ = (.int .u8 (((((100 : UInt8) + (x147 &&& (7 : UInt8)))).toNat : Int)))), (fun _ v_ => v_ = (.agg ((digI (((100 : UInt8) + (x147 &&& (7 : UInt8)))))).cells.toArray)), (fun _ v_ => v_ = (.int .i64 (((k : Nat) : Int)))), (fun _ v_ => v_ = (.int .i64 4)), (fun _ v_ => v_ = (.int .i64 (((min k 4 : Nat) : Int)))), (fun _ v_ => v_ = (.agg ((.int .i64 sq) :: (((digI (((100 : UInt8) + (x147 &&& (7 : UInt8)))))).cells ++ ((Value.int .i64 (((min k 4 : Nat) : Int))) :: []))).toArray)), (fun G v => ∃ bb_, v = .slice (some ⟨bb_, 0, none⟩) 1 1 ∧ Sl G v ([(Stand.mk sq ((digI (((100 : UInt8) + (x147 &&& (7 : UInt8)))))) (((min k 4 : Nat) : Int)))] : List Stand)), (fun _ _ => True), (fun _ v_ => v_ = (.pointer (some ⟨b13, 5, none⟩))), (fun _ _ => True)]) (fun done ac_ G' w => Cx w0 G0 G' w ∧ GLe G G' ∧ ∃ (A16_ : Option Addr) (C16_ : Nat) (O16_ : Option Bx), (done 16 = true → ac_.tmps[64]? = some (.slice A16_ (((qs ++ [(Stand.mk sq ((digI (((100 : UInt8) + (x147 &&& (7 : UInt8)))))) (((min k 4 : Nat) : Int)))])).length) C16_) ∧ Ow G' O16_ 58 (.slice A16_ (((qs ++ [(Stand.mk sq ((digI (((100 : UInt8) + (x147 &&& (7 : UInt8)))))) (((min k 4 : Nat) : Int)))])).length) C16_) ((qs ++ [(Stand.mk sq ((digI (((100 : UInt8) + (x147 &&& (7 : UInt8)))))) (((min k 4 : Nat) : Int)))]) : List Stand)) ∧ Bxs G' w w0.heap.size (([(b13, 49, (bif done 18 then [(.int .i64 nd), (.int .i64 1), (.int .i64 0), (.slice A11 (([baseI]).length) cap12), (.slice none 0 0), (.slice A16_ (((qs ++ [(Stand.mk sq ((digI (((100 : UInt8) + (x147 &&& (7 : UInt8)))))) (((min k 4 : Nat) : Int)))])).length) C16_)] else [(.int .i64 nd), (.int .i64 1), (.int .i64 0), (.slice A11 (([baseI]).length) cap12), (.slice none 0 0), (.slice qsA qs.length qsC)])), (b7, 49, [(.int .i64 0), (.int .i64 0), (.int .i64 0), (.slice none 0 0), (.slice none 0 0), (.slice none 0 0)]), (b6, 28, dg.cells), (b5, 46, [(.bool p.other), (.bool p.same), (.int .u8 (((p.b).toNat : Int))), (.int .i64 p.view), (.slice (some ⟨b149, o150, none⟩) p.proposed.length cap4)])] ++ (Option.toList (bif done 16 then O16_ else qsO) ++ [])))) G (vAt_mono ⟨fun _ _ _ _ h => h, fun _ _ _ _ h => h, fun _ _ _ _ h => h, fun _ _ _ _ h => h, fun _ _ _ _ h => h, fun _ _ _ _ h => h, fun _ _ _ _ h => h, fun _ _ _ _ h => h, fun _ _ _ _ h => h, fun _ _ _ _ h => h, fun _ _ _ _ h => h, fun _ _ _ _ h => h, fun _ _ _ _ h => h, fun _ _ _ _ h => h, fun _ _ _ _ h => h, fun _ _ _ hg => fun ⟨b, h1, h2⟩ => ⟨b, h1, h2.mono hg⟩, fun _ _ _ _ h => h, fun _ _ _ _ h => h, fun _ _ _ _ h => h, trivial⟩) (fun _ _ => ⟨hC.drew, fun _ _ h => h, none, 0, none, (fun h => by cases h), by simpa using hB.drew⟩) ?_ ?_
    ·
     refine dsNone (j := 1) rfl ?_ ?_
     ·
      intro done G w ac_ hd hp hn ⟨hC, hg, A16_, C16_, O16_, hT16, hBx⟩ hM
      have hB := hBx
      have f13 : ac_.tmps[13]? = some (.pointer (some ⟨b13, 0, none⟩)) := hM.old0 rfl rfl
      have hF := (hM.fr.add f13)
      exact OpVal.draw hF (opFieldAddr rfl fo49_5) ⟨G, fun _ _ h => h, ⟨hC, hg, A16_, C16_, O16_, (fun h => ⟨(put_other rfl).trans (hT16 h).1, (hT16 h).2⟩), hBx⟩, rfl⟩
     refine dsNone (j := 2) rfl ?_ ?_
     ·
      intro done G w ac_ hd hp hn ⟨hC, hg, A16_, C16_, O16_, hT16, hBx⟩ hM
      have hB := hBx
      try simp only [hn 18 _ rfl rfl, cond_false] at hB
      have f48 := hM.eqv (s := 48) 0 rfl (hp 0 rfl) rfl rfl
      have hF := (hM.fr.add f48)
      exact OpVal.draw hF (opLoadOne (v := (.slice qsA qs.length qsC)) rfl (hB.cell (i := 0) rfl rfl) one47) ⟨G, fun _ _ h => h, ⟨hC, hg, A16_, C16_, O16_, (fun h => ⟨(put_other rfl).trans (hT16 h).1, (hT16 h).2⟩), hBx⟩, rfl⟩
     refine dsNone (j := 3) rfl ?_ ?_
     ·
      intro done G w ac_ hd hp hn ⟨hC, hg, A16_, C16_, O16_, hT16, hBx⟩ hM
      have hB := hBx
      have f2 : ac_.tmps[2]? = some (.int .i64 sq) := hM.old0 rfl rfl
      have hF := (hM.fr.add f2)
      exact OpVal.draw hF (opMove rfl) ⟨G, fun _ _ h => h, ⟨hC, hg, A16_, C16_, O16_, (fun h => ⟨(put_other rfl).trans (hT16 h).1, (hT16 h).2⟩), hBx⟩, rfl⟩
     refine dsNone (j := 4) rfl ?_ ?_
     ·
      intro done G w ac_ hd hp hn ⟨hC, hg, A16_, C16_, O16_, hT16, hBx⟩ hM
      have hB := hBx
      have f6 : ac_.tmps[6]? = some (.pointer (some ⟨b5, 0, none⟩)) := hM.old0 rfl rfl
      have hF := (hM.fr.add f6)
      exact OpVal.draw hF (opFieldAddr rfl fo46_4) ⟨G, fun _ _ h => h, ⟨hC, hg, A16_, C16_, O16_, (fun h => ⟨(put_other rfl).trans (hT16 h).1, (hT16 h).2⟩), hBx⟩, rfl⟩
     refine dsNone (j := 5) rfl ?_ ?_
     ·
      intro done G w ac_ hd hp hn ⟨hC, hg, A16_, C16_, O16_, hT16, hBx⟩ hM
      have hB := hBx
      try simp only [hn 18 _ rfl rfl, cond_false] at hB
      have f51 := hM.eqv (s := 51) 3 rfl (hp 3 rfl) rfl rfl
      have hF := (hM.fr.add f51)
      exact OpVal.draw hF (opLoadOne (v := (.slice (some ⟨b149, o150, none⟩) p.proposed.length cap4)) rfl (hB.cell (i := 3) rfl rfl) one44) ⟨G, fun _ _ h => h, ⟨hC, hg, A16_, C16_, O16_, (fun h => ⟨(put_other rfl).trans (hT16 h).1, (hT16 h).2⟩), hBx⟩, rfl⟩
     refine dsNone (j := 6) rfl ?_ ?_
     ·
      intro done G w ac_ hd hp hn ⟨hC, hg, A16_, C16_, O16_, hT16, hBx⟩ hM
      have hB := hBx
      have f14 : ac_.tmps[14]? = some (.int .i64 (((k : Nat) : Int))) := hM.old0 rfl rfl
      have hF := (hM.fr.add f14)
      exact OpVal.draw hF (opMove rfl) ⟨G, fun _ _ h => h, ⟨hC, hg, A16_, C16_, O16_, (fun h => ⟨(put_other rfl).trans (hT16 h).1, (hT16 h).2⟩), hBx⟩, rfl⟩
     refine dsNone (j := 7) rfl ?_ ?_
     ·
      intro done G w ac_ hd hp hn ⟨hC, hg, A16_, C16_, O16_, hT16, hBx⟩ hM
      have hB := hBx
      have f52 := hM.eqv (s := 52) 4 rfl (hp 4 rfl) rfl rfl
      have f53 := hM.eqv (s := 53) 5 rfl (hp 5 rfl) rfl rfl
      have hF := ((hM.fr.add f52).add f53)
      exact OpVal.draw hF (opIndexAddr rfl rfl slo44 (of_decide_eq_true h14)) ⟨G, fun _ _ h => h, ⟨hC, hg, A16_, C16_, O16_, (fun h => ⟨(put_other rfl).trans (hT16 h).1, (hT16 h).2⟩), hBx⟩, rfl⟩
     refine dsNone (j := 8) rfl ?_ ?_
     ·
      intro done G w ac_ hd hp hn ⟨hC, hg, A16_, C16_, O16_, hT16, hBx⟩ hM
      have hB := hBx
      replace hr152 := hr152.mono hg
      have f54 := hM.eqv (s := 54) 6 rfl (hp 6 rfl) rfl rfl
      have hF := (hM.fr.add f54)
      exact OpVal.draw hF (opLoadOne (v := (.int .u8 (((x147).toNat : Int)))) rfl (RowG.cell0 hC.holds hr152 rfl) one5) ⟨G, fun _ _ h => h, ⟨hC, hg, A16_, C16_, O16_, (fun h => ⟨(put_other rfl).trans (hT16 h).1, (hT16 h).2⟩), hBx⟩, rfl⟩
     refine dsNone (j := 9) rfl ?_ ?_
     ·
      intro done G w ac_ hd hp hn ⟨hC, hg, A16_, C16_, O16_, hT16, hBx⟩ hM
      have hB := hBx
      have f55 := hM.eqv (s := 55) 7 rfl (hp 7 rfl) rfl rfl
      have hF := (hM.fr.add f55)
      exact OpVal.draw hF (opAndU8 (a := x147) (b := (7 : UInt8)) rfl rfl) ⟨G, fun _ _ h => h, ⟨hC, hg, A16_, C16_, O16_, (fun h => ⟨(put_other rfl).trans (hT16 h).1, (hT16 h).2⟩), hBx⟩, rfl⟩
     refine dsNone (j := 10) rfl ?_ ?_
     ·
      intro done G w ac_ hd hp hn ⟨hC, hg, A16_, C16_, O16_, hT16, hBx⟩ hM
      have hB := hBx
      have f56 := hM.eqv (s := 56) 8 rfl (hp 8 rfl) rfl rfl
      have hF := (hM.fr.add f56)
      exact OpVal.draw hF (opAddU8 (a := (100 : UInt8)) (b := (x147 &&& (7 : UInt8))) rfl rfl) ⟨G, fun _ _ h => h, ⟨hC, hg, A16_, C16_, O16_, (fun h => ⟨(put_other rfl).trans (hT16 h).1, (hT16 h).2⟩), hBx⟩, rfl⟩
     refine dsNone (j := 11) rfl ?_ ?_
     ·
      intro done G w ac_ hd hp hn ⟨hC, hg, A16_, C16_, O16_, hT16, hBx⟩ hM
      have hB := hBx
      have f57 := hM.eqv (s := 57) 9 rfl (hp 9 rfl) rfl rfl
      have hF := (hM.fr.add f57)
      exact drawCallS hF rfl co16 rfl (digest_ret _ _ hC.holds (((100 : UInt8) + (x147 &&& (7 : UInt8))))) (fun w' hk => ⟨G, fun _ _ h => h, ⟨hC.trans hk, hg, A16_, C16_, O16_, (fun h => ⟨(put_other rfl).trans (hT16 h).1, (hT16 h).2⟩), hBx.ext hk⟩, rfl⟩)
     refine dsNone (j := 12) rfl ?_ ?_
     ·
      intro done G w ac_ hd hp hn ⟨hC, hg, A16_, C16_, O16_, hT16, hBx⟩ hM
      have hB := hBx
      have f15 : ac_.tmps[15]? = some (.int .i64 (((k : Nat) : Int))) := hM.old0 rfl rfl
      have hF := (hM.fr.add f15)
      exact OpVal.draw hF (opMove rfl) ⟨G, fun _ _ h => h, ⟨hC, hg, A16_, C16_, O16_, (fun h => ⟨(put_other rfl).trans (hT16 h).1, (hT16 h).2⟩), hBx⟩, rfl⟩
     refine dsNone (j := 13) rfl ?_ ?_
     ·
      intro done G w ac_ hd hp hn ⟨hC, hg, A16_, C16_, O16_, hT16, hBx⟩ hM
      have hB := hBx
      have f4 : ac_.tmps[4]? = some (.int .i64 4) := hM.old0 rfl rfl
      have hF := (hM.fr.add f4)
      exact OpVal.draw hF (opMove rfl) ⟨G, fun _ _ h => h, ⟨hC, hg, A16_, C16_, O16_, (fun h => ⟨(put_other rfl).trans (hT16 h).1, (hT16 h).2⟩), hBx⟩, rfl⟩
     refine dsNone (j := 14) rfl ?_ ?_
     ·
      intro done G w ac_ hd hp hn ⟨hC, hg, A16_, C16_, O16_, hT16, hBx⟩ hM
      have hB := hBx
      have f59 := hM.eqv (s := 59) 11 rfl (hp 11 rfl) rfl rfl
      have f60 := hM.eqv (s := 60) 12 rfl (hp 12 rfl) rfl rfl
      have hF := ((hM.fr.add f59).add f60)
      exact OpVal.draw hF (opMinN rfl rfl) ⟨G, fun _ _ h => h, ⟨hC, hg, A16_, C16_, O16_, (fun h => ⟨(put_other rfl).trans (hT16 h).1, (hT16 h).2⟩), hBx⟩, rfl⟩
     refine dsNone (j := 15) rfl ?_ ?_
     ·
      intro done G w ac_ hd hp hn ⟨hC, hg, A16_, C16_, O16_, hT16, hBx⟩ hM
      have hB := hBx
      have f50 := hM.eqv (s := 50) 2 rfl (hp 2 rfl) rfl rfl
      have f58 := hM.eqv (s := 58) 10 rfl (hp 10 rfl) rfl rfl
      have f61 := hM.eqv (s := 61) 13 rfl (hp 13 rfl) rfl rfl
      have hF := (((hM.fr.add f50).add f58).add f61)
      exact OpVal.draw hF (opBuild (ps := [(0, .tmp 50), (1, .tmp 58), (2, .tmp 61)]) (cs := ((.int .i64 sq) :: (((digI (((100 : UInt8) + (x147 &&& (7 : UInt8)))))).cells ++ ((Value.int .i64 (((min k 4 : Nat) : Int))) :: [])))) so58 zero58 rfl rfl (by simp [buildCells, Value.cells])) ⟨G, fun _ _ h => h, ⟨hC, hg, A16_, C16_, O16_, (fun h => ⟨(put_other rfl).trans (hT16 h).1, (hT16 h).2⟩), hBx⟩, rfl⟩
     refine dsNone (j := 16) rfl ?_ ?_
     ·
      intro done G w ac_ hd hp hn ⟨hC, hg, A16_, C16_, O16_, hT16, hBx⟩ hM
      have hB := hBx
      have f62 := hM.eqv (s := 62) 14 rfl (hp 14 rfl) rfl rfl
      have hF := (hM.fr.add f62)
      exact drawBsl hF (α := Stand) (ps := [(0, .tmp 62)]) (xs := [(Stand.mk sq ((digI (((100 : UInt8) + (x147 &&& (7 : UInt8)))))) (((min k 4 : Nat) : Int)))]) (rows := [((.int .i64 sq) :: (((digI (((100 : UInt8) + (x147 &&& (7 : UInt8)))))).cells ++ ((Value.int .i64 (((min k 4 : Nat) : Int))) :: [])))]) elo47 rfl rfl hC.holds rfl rfl rfl ⟨rfl, trivial⟩ (fun b G' w' hk hr => ⟨G', hk.gle, ⟨hC.trans hk, fun b o h => hk.gle b o (hg b o h), A16_, C16_, O16_, (fun h => ⟨(put_other rfl).trans (hT16 h).1, (hT16 h).2.mono hk.gle⟩), hBx.ext hk⟩, ⟨b, rfl, hr⟩⟩)
     refine dsNone (j := 17) rfl ?_ ?_
     ·
      intro done G w ac_ hd hp hn ⟨hC, hg, A16_, C16_, O16_, hT16, hBx⟩ hM
      have hB := hBx
      replace hOqs := hOqs.mono hg
      have f49 := hM.eqv (s := 49) 1 rfl (hp 1 rfl) rfl rfl
      obtain ⟨v_, f63, ⟨b155, rfl, hs156⟩⟩ := hM.new 15 _ _ rfl (hp 15 rfl) rfl
      have hF := ((hM.fr.add f49).add f63)
      simp only [hd, hn 18 _ rfl rfl, cond_false] at hBx
      exact drawAppend (α := Stand) (bl := [(b13, 49, [(.int .i64 nd), (.int .i64 1), (.int .i64 0), (.slice A11 (([baseI]).length) cap12), (.slice none 0 0), (.slice qsA qs.length qsC)]), (b7, 49, [(.int .i64 0), (.int .i64 0), (.int .i64 0), (.slice none 0 0), (.slice none 0 0), (.slice none 0 0)]), (b6, 28, dg.cells), (b5, 46, [(.bool p.other), (.bool p.same), (.int .u8 (((p.b).toNat : Int))), (.int .i64 p.view), (.slice (some ⟨b149, o150, none⟩) p.proposed.length cap4)])]) (o := qsO) (r := []) hF elo47 hC hBx rfl rfl hOqs hs156 (by have q := toldQ_len hq; simp; omega) rfl (fun A_ cap_ o_ w' hC hB hO_ => ⟨G, fun _ _ h => h, ⟨hC, hg, A_, cap_, o_, (fun _ => ⟨put_same hM.sz rfl, hO_⟩), by simpa [Done.set, hn 18 _ rfl rfl] using hB⟩, trivial⟩)
     refine dsNone (j := 18) rfl ?_ ?_
     ·
      intro done G w ac_ hd hp hn ⟨hC, hg, A16_, C16_, O16_, hT16, hBx⟩ hM
      have hB := hBx
      have f13 : ac_.tmps[13]? = some (.pointer (some ⟨b13, 0, none⟩)) := hM.old0 rfl rfl
      have hF := (hM.fr.add f13)
      exact OpVal.draw hF (opFieldAddr rfl fo49_5) ⟨G, fun _ _ h => h, ⟨hC, hg, A16_, C16_, O16_, (fun h => ⟨(put_other rfl).trans (hT16 h).1, (hT16 h).2⟩), hBx⟩, rfl⟩
     refine dsNone (j := 19) rfl ?_ ?_
     ·
      intro done G w ac_ hd hp hn ⟨hC, hg, A16_, C16_, O16_, hT16, hBx⟩ hM
      have hB := hBx
      have f64 := (hT16 (hp 16 rfl)).1
      have f65 := hM.eqv (s := 65) 17 rfl (hp 17 rfl) rfl rfl
      have hF := ((hM.fr.add f64).add f65)
      have hB := hBx
      try simp only [hd, cond_false] at hB
      exact drawStore hF 0 (vs := [(.slice A16_ (((qs ++ [(Stand.mk sq ((digI (((100 : UInt8) + (x147 &&& (7 : UInt8)))))) (((min k 4 : Nat) : Int)))])).length) C16_)]) (cs := [(.int .i64 nd), (.int .i64 1), (.int .i64 0), (.slice A11 (([baseI]).length) cap12), (.slice none 0 0), (.slice qsA qs.length qsC)]) (cs' := [(.int .i64 nd), (.int .i64 1), (.int .i64 0), (.slice A11 (([baseI]).length) cap12), (.slice none 0 0), (.slice A16_ (((qs ++ [(Stand.mk sq ((digI (((100 : UInt8) + (x147 &&& (7 : UInt8)))))) (((min k 4 : Nat) : Int)))])).length) C16_)]) hC hB rfl rfl rfl sz47 rfl rfl rfl (by simp [Mark.cells, Stand.cells]) rfl (fun w' hC hB => ⟨G, fun _ _ h => h, ⟨hC, hg, A16_, C16_, O16_, (fun h => ⟨(hT16 h).1, (hT16 h).2⟩), by simpa [Done.set] using hB⟩, trivial⟩)
     exact dsNil
    ·
     intro done G w ac_ hall ⟨hC, hg, A158, cap159, o160, hT16, hB⟩ hM
     replace hs2 := hs2.mono hg
     replace r9 := r9.mono hg
     replace hOqs := hOqs.mono hg
     try simp only [hall 18 (by decide), cond_true] at hB
     have f2 : ac_.tmps[2]? = some (.int .i64 sq) := hM.old0 rfl rfl
     have f4 : ac_.tmps[4]? = some (.int .i64 4) := hM.old0 rfl rfl
     have f5 : ac_.tmps[5]? = some (.bool kp) := hM.old0 rfl rfl
     have f6 : ac_.tmps[6]? = some (.pointer (some ⟨b5, 0, none⟩)) := hM.old0 rfl rfl
     have f9 : ac_.tmps[9]? = some (.pointer (some ⟨b6, 0, none⟩)) := hM.old0 rfl rfl
     have f12 : ac_.tmps[12]? = some (.pointer (some ⟨b7, 0, none⟩)) := hM.old0 rfl rfl
     have f13 : ac_.tmps[13]? = some (.pointer (some ⟨b13, 0, none⟩)) := hM.old0 rfl rfl
     have f14 : ac_.tmps[14]? = some (.int .i64 (((k : Nat) : Int))) := hM.old0 rfl rfl
     have hO157 := (hT16 (hall 16 (by decide))).2
     try simp only [hall 16 (by decide), cond_true] at hB
     replace hB : Bxs G w w0.heap.size ([(b13, 49, [(.int .i64 nd), (.int .i64 1), (.int .i64 0), (.slice A11 (([baseI]).length) cap12), (.slice none 0 0), (.slice A158 (((qs ++ [(Stand.mk sq ((digI (((100 : UInt8) + (x147 &&& (7 : UInt8)))))) (((min k 4 : Nat) : Int)))])).length) cap159)]), (b7, 49, [(.int .i64 0), (.int .i64 0), (.int .i64 0), (.slice none 0 0), (.slice none 0 0), (.slice none 0 0)]), (b6, 28, dg.cells), (b5, 46, [(.bool p.other), (.bool p.same), (.int .u8 (((p.b).toNat : Int))), (.int .i64 p.view), (.slice (some ⟨b149, o150, none⟩) p.proposed.length cap4)])] ++ (Option.toList o160 ++ [])) := hB
     refine ⟨((((((((Env.nil.put 2 (.int .i64 sq)).put 4 (.int .i64 4)).put 5 (.bool kp)).put 6 (.pointer (some ⟨b5, 0, none⟩))).put 9 (.pointer (some ⟨b6, 0, none⟩))).put 12 (.pointer (some ⟨b7, 0, none⟩))).put 13 (.pointer (some ⟨b13, 0, none⟩))).put 14 (.int .i64 (((k : Nat) : Int)))), ((((((((hM.fr.add f2).add f4).add f5).add f6).add f9).add f12).add f13).add f14), ?_⟩
     clear hM hall
     refine wcOf ?_
     refine wcRegion ?_
     refine wlVal (opMove rfl) rfl ?_
     refine wlVal (opIncr rfl rfl (by have q := of_decide_eq_true h14; have q2 := of_decide_eq_true h80; omega)) rfl ?_
     refine wlVal (opAssign rfl) rfl ?_
     refine wlRound ?_
     exact (IH0 (k + 1, A158, cap159, o160, (qs ++ [(Stand.mk sq ((digI (((100 : UInt8) + (x147 &&& (7 : UInt8)))))) (((min k 4 : Nat) : Int)))])) _ _ ⟨hC, hB, hs2, r9, hO157, (of_decide_eq_true h80), (of_decide_eq_true h14), (by rw [toldQ_step, ← hq]; simp only [toldS, getD_of hx148, h146, Bool.and_true, Bool.and_false, Bool.true_and, Bool.false_and, Bool.not_true, Bool.not_false, cond_true, cond_false]; first | done | rfl)⟩ (by have q := of_decide_eq_true h14; show p.proposed.length - (k + 1) < p.proposed.length - k; omega)).sub (fun _ ha => ((((((((ha.start.cons ha (t := 2) rfl).cons ha (t := 4) rfl).cons ha (t := 5) rfl).cons ha (t := 6) rfl).cons ha (t := 9) rfl).cons ha (t := 12) rfl).cons ha (t := 13) rfl).cons ha (t := 14) rfl))
   ·
    skip
    refine wlOn rfl rfl ?_
    refine wlVal (opMove rfl) rfl ?_
    refine wlOn rfl rfl ?_
    refine wlVal (opNot rfl) rfl ?_
    refine wlVal (opPickT rfl rfl) rfl ?_
    refine wlVal (opMove rfl) rfl ?_
    cases h161 : kp
    ·
     skip
     refine wlOn rfl rfl ?_
     refine wlVal (opFieldAddr rfl fo46_1) rfl ?_
     refine wlOn rfl rfl ?_
     refine wlVal (opLoadOne (v := (.bool p.same)) rfl (hB.cell (i := 3) rfl rfl) one4) rfl ?_
     refine wlOn rfl rfl ?_
     refine wlVal (opNot rfl) rfl ?_
     refine wlVal (opPickT rfl rfl) rfl ?_
     refine wlThen ?_
     cases h162 : p.same
     ·
      skip
      refine wcCondT rfl ?_
      refine wcRegion ?_
      refine wlVal (opMove rfl) rfl ?_
      refine wlVal (opAssign rfl) rfl ?_
      refine wlThen ?_
      obtain ⟨x163, hx164⟩ : ∃ y_, p.proposed[k]? = some y_ := ⟨_, List.getElem?_eq_getElem (of_decide_eq_true h14)⟩
      obtain ⟨b165, o166, row167, hA170, hr168, hi169⟩ := hs2.elem hx164; subst hA170
      obtain rfl := hi169
      refine wcDraw fmix (by kernel_rfl) (by kernel_rfl) (vAt [(fun _ v_ => v_ = (.pointer (some ⟨b13, 5, none⟩))), (fun _ v_ => v_ = (.slice qsA qs.length qsC)), (fun _ v_ => v_ = (.int .i64 sq)), (fun _ v_ => v_ = (.pointer (some ⟨b5, 4, none⟩))), (fun _ v_ => v_ = (.slice (some ⟨b165, o166, none⟩) p.proposed.length cap4)), (fun _ v_ => v_ = (.int .i64 (((k : Nat) : Int)))), (fun _ v_ => v_ = (.pointer (some ⟨b165, o166 + k * 1, none⟩))), (fun _ v_ => v_ = (.int .u8 (((x163).toNat : Int)))), (fun _ v_ => v_ = (.int .u8 ((((x163 &&& (7 : UInt8))).toNat : Int)))), (fun _ v_ => v_ = (.int .u8 (((((100 : UInt8) + (x163 &&& (7 : UInt8)))).toNat : Int)))), (fun _ v_ => v_ = (.agg ((digI (((100 : UInt8) + (x163 &&& (7 : UInt8)))))).cells.toArray)), (fun _ v_ => v_ = (.int .i64 4)), (fun _ v_ => v_ = (.int .i64 4)), (fun _ v_ => v_ = (.int .i64 (((min 4 4 : Nat) : Int)))), (fun _ v_ => v_ = (.agg ((.int .i64 sq) :: (((digI (((100 : UInt8) + (x163 &&& (7 : UInt8)))))).cells ++ ((Value.int .i64 (((min 4 4 : Nat) : Int))) :: []))).toArray)), (fun G v => ∃ bb_, v = .slice (some ⟨bb_, 0, none⟩) 1 1 ∧ Sl G v ([(Stand.mk sq ((digI (((100 : UInt8) + (x163 &&& (7 : UInt8)))))) (((min 4 4 : Nat) : Int)))] : List Stand)), (fun _ _ => True), (fun _ v_ => v_ = (.pointer (some ⟨b13, 5, none⟩))), (fun _ _ => True)]) (fun done ac_ G' w => Cx w0 G0 G' w ∧ GLe G G' ∧ ∃ (A16_ : Option Addr) (C16_ : Nat) (O16_ : Option Bx), (done 16 = true → ac_.tmps[64]? = some (.slice A16_ (((qs ++ [(Stand.mk sq ((digI (((100 : UInt8) + (x163 &&& (7 : UInt8)))))) (((min 4 4 : Nat) : Int)))])).length) C16_) ∧ Ow G' O16_ 58 (.slice A16_ (((qs ++ [(Stand.mk sq ((digI (((100 : UInt8) + (x163 &&& (7 : UInt8)))))) (((min 4 4 : Nat) : Int)))])).length) C16_) ((qs ++ [(Stand.mk sq ((digI (((100 : UInt8) + (x163 &&& (7 : UInt8)))))) (((min 4 4 : Nat) : Int)))]) : List Stand)) ∧ Bxs G' w w0.heap.size (([(b13, 49, (bif done 18 then [(.int .i64 nd), (.int .i64 1), (.int .i64 0), (.slice A11 (([baseI]).length) cap12), (.slice none 0 0), (.slice A16_ (((qs ++ [(Stand.mk sq ((digI (((100 : UInt8) + (x163 &&& (7 : UInt8)))))) (((min 4 4 : Nat) : Int)))])).length) C16_)] else [(.int .i64 nd), (.int .i64 1), (.int .i64 0), (.slice A11 (([baseI]).length) cap12), (.slice none 0 0), (.slice qsA qs.length qsC)])), (b7, 49, [(.int .i64 0), (.int .i64 0), (.int .i64 0), (.slice none 0 0), (.slice none 0 0), (.slice none 0 0)]), (b6, 28, dg.cells), (b5, 46, [(.bool p.other), (.bool p.same), (.int .u8 (((p.b).toNat : Int))), (.int .i64 p.view), (.slice (some ⟨b165, o166, none⟩) p.proposed.length cap4)])] ++ (Option.toList (bif done 16 then O16_ else qsO) ++ [])))) G (vAt_mono ⟨fun _ _ _ _ h => h, fun _ _ _ _ h => h, fun _ _ _ _ h => h, fun _ _ _ _ h => h, fun _ _ _ _ h => h, fun _ _ _ _ h => h, fun _ _ _ _ h => h, fun _ _ _ _ h => h, fun _ _ _ _ h => h, fun _ _ _ _ h => h, fun _ _ _ _ h => h, fun _ _ _ _ h => h, fun _ _ _ _ h => h, fun _ _ _ _ h => h, fun _ _ _ _ h => h, fun _ _ _ hg => fun ⟨b, h1, h2⟩ => ⟨b, h1, h2.mono hg⟩, fun _ _ _ _ h => h, fun _ _ _ _ h => h, fun _ _ _ _ h => h, trivial⟩) (fun _ _ => ⟨hC.drew, fun _ _ h => h, none, 0, none, (fun h => by cases h), by simpa using hB.drew⟩) ?_ ?_
      ·
       refine dsNone (j := 1) rfl ?_ ?_
       ·
        intro done G w ac_ hd hp hn ⟨hC, hg, A16_, C16_, O16_, hT16, hBx⟩ hM
        have hB := hBx
        have f13 : ac_.tmps[13]? = some (.pointer (some ⟨b13, 0, none⟩)) := hM.old0 rfl rfl
        have hF := (hM.fr.add f13)
        exact OpVal.draw hF (opFieldAddr rfl fo49_5) ⟨G, fun _ _ h => h, ⟨hC, hg, A16_, C16_, O16_, (fun h => ⟨(put_other rfl).trans (hT16 h).1, (hT16 h).2⟩), hBx⟩, rfl⟩
       refine dsNone (j := 2) rfl ?_ ?_
       ·
        intro done G w ac_ hd hp hn ⟨hC, hg, A16_, C16_, O16_, hT16, hBx⟩ hM
        have hB := hBx
        try simp only [hn 18 _ rfl rfl, cond_false] at hB
        have f48 := hM.eqv (s := 48) 0 rfl (hp 0 rfl) rfl rfl
        have hF := (hM.fr.add f48)
        exact OpVal.draw hF (opLoadOne (v := (.slice qsA qs.length qsC)) rfl (hB.cell (i := 0) rfl rfl) one47) ⟨G, fun _ _ h => h, ⟨hC, hg, A16_, C16_, O16_, (fun h => ⟨(put_other rfl).trans (hT16 h).1, (hT16 h).2⟩), hBx⟩, rfl⟩
       refine dsNone (j := 3) rfl ?_ ?_
       ·
        intro done G w ac_ hd hp hn ⟨hC, hg, A16_, C16_, O16_, hT16, hBx⟩ hM
        have hB := hBx
        have f2 : ac_.tmps[2]? = some (.int .i64 sq) := hM.old0 rfl rfl
        have hF := (hM.fr.add f2)
        exact OpVal.draw hF (opMove rfl) ⟨G, fun _ _ h => h, ⟨hC, hg, A16_, C16_, O16_, (fun h => ⟨(put_other rfl).trans (hT16 h).1, (hT16 h).2⟩), hBx⟩, rfl⟩
       refine dsNone (j := 4) rfl ?_ ?_
       ·
        intro done G w ac_ hd hp hn ⟨hC, hg, A16_, C16_, O16_, hT16, hBx⟩ hM
        have hB := hBx
        have f6 : ac_.tmps[6]? = some (.pointer (some ⟨b5, 0, none⟩)) := hM.old0 rfl rfl
        have hF := (hM.fr.add f6)
        exact OpVal.draw hF (opFieldAddr rfl fo46_4) ⟨G, fun _ _ h => h, ⟨hC, hg, A16_, C16_, O16_, (fun h => ⟨(put_other rfl).trans (hT16 h).1, (hT16 h).2⟩), hBx⟩, rfl⟩
       refine dsNone (j := 5) rfl ?_ ?_
       ·
        intro done G w ac_ hd hp hn ⟨hC, hg, A16_, C16_, O16_, hT16, hBx⟩ hM
        have hB := hBx
        try simp only [hn 18 _ rfl rfl, cond_false] at hB
        have f51 := hM.eqv (s := 51) 3 rfl (hp 3 rfl) rfl rfl
        have hF := (hM.fr.add f51)
        exact OpVal.draw hF (opLoadOne (v := (.slice (some ⟨b165, o166, none⟩) p.proposed.length cap4)) rfl (hB.cell (i := 3) rfl rfl) one44) ⟨G, fun _ _ h => h, ⟨hC, hg, A16_, C16_, O16_, (fun h => ⟨(put_other rfl).trans (hT16 h).1, (hT16 h).2⟩), hBx⟩, rfl⟩
       refine dsNone (j := 6) rfl ?_ ?_
       ·
        intro done G w ac_ hd hp hn ⟨hC, hg, A16_, C16_, O16_, hT16, hBx⟩ hM
        have hB := hBx
        have f14 : ac_.tmps[14]? = some (.int .i64 (((k : Nat) : Int))) := hM.old0 rfl rfl
        have hF := (hM.fr.add f14)
        exact OpVal.draw hF (opMove rfl) ⟨G, fun _ _ h => h, ⟨hC, hg, A16_, C16_, O16_, (fun h => ⟨(put_other rfl).trans (hT16 h).1, (hT16 h).2⟩), hBx⟩, rfl⟩
       refine dsNone (j := 7) rfl ?_ ?_
       ·
        intro done G w ac_ hd hp hn ⟨hC, hg, A16_, C16_, O16_, hT16, hBx⟩ hM
        have hB := hBx
        have f52 := hM.eqv (s := 52) 4 rfl (hp 4 rfl) rfl rfl
        have f53 := hM.eqv (s := 53) 5 rfl (hp 5 rfl) rfl rfl
        have hF := ((hM.fr.add f52).add f53)
        exact OpVal.draw hF (opIndexAddr rfl rfl slo44 (of_decide_eq_true h14)) ⟨G, fun _ _ h => h, ⟨hC, hg, A16_, C16_, O16_, (fun h => ⟨(put_other rfl).trans (hT16 h).1, (hT16 h).2⟩), hBx⟩, rfl⟩
       refine dsNone (j := 8) rfl ?_ ?_
       ·
        intro done G w ac_ hd hp hn ⟨hC, hg, A16_, C16_, O16_, hT16, hBx⟩ hM
        have hB := hBx
        replace hr168 := hr168.mono hg
        have f54 := hM.eqv (s := 54) 6 rfl (hp 6 rfl) rfl rfl
        have hF := (hM.fr.add f54)
        exact OpVal.draw hF (opLoadOne (v := (.int .u8 (((x163).toNat : Int)))) rfl (RowG.cell0 hC.holds hr168 rfl) one5) ⟨G, fun _ _ h => h, ⟨hC, hg, A16_, C16_, O16_, (fun h => ⟨(put_other rfl).trans (hT16 h).1, (hT16 h).2⟩), hBx⟩, rfl⟩
       refine dsNone (j := 9) rfl ?_ ?_
       ·
        intro done G w ac_ hd hp hn ⟨hC, hg, A16_, C16_, O16_, hT16, hBx⟩ hM
        have hB := hBx
        have f55 := hM.eqv (s := 55) 7 rfl (hp 7 rfl) rfl rfl
        have hF := (hM.fr.add f55)
        exact OpVal.draw hF (opAndU8 (a := x163) (b := (7 : UInt8)) rfl rfl) ⟨G, fun _ _ h => h, ⟨hC, hg, A16_, C16_, O16_, (fun h => ⟨(put_other rfl).trans (hT16 h).1, (hT16 h).2⟩), hBx⟩, rfl⟩
       refine dsNone (j := 10) rfl ?_ ?_
       ·
        intro done G w ac_ hd hp hn ⟨hC, hg, A16_, C16_, O16_, hT16, hBx⟩ hM
        have hB := hBx
        have f56 := hM.eqv (s := 56) 8 rfl (hp 8 rfl) rfl rfl
        have hF := (hM.fr.add f56)
        exact OpVal.draw hF (opAddU8 (a := (100 : UInt8)) (b := (x163 &&& (7 : UInt8))) rfl rfl) ⟨G, fun _ _ h => h, ⟨hC, hg, A16_, C16_, O16_, (fun h => ⟨(put_other rfl).trans (hT16 h).1, (hT16 h).2⟩), hBx⟩, rfl⟩
       refine dsNone (j := 11) rfl ?_ ?_
       ·
        intro done G w ac_ hd hp hn ⟨hC, hg, A16_, C16_, O16_, hT16, hBx⟩ hM
        have hB := hBx
        have f57 := hM.eqv (s := 57) 9 rfl (hp 9 rfl) rfl rfl
        have hF := (hM.fr.add f57)
        exact drawCallS hF rfl co16 rfl (digest_ret _ _ hC.holds (((100 : UInt8) + (x163 &&& (7 : UInt8))))) (fun w' hk => ⟨G, fun _ _ h => h, ⟨hC.trans hk, hg, A16_, C16_, O16_, (fun h => ⟨(put_other rfl).trans (hT16 h).1, (hT16 h).2⟩), hBx.ext hk⟩, rfl⟩)
       refine dsNone (j := 12) rfl ?_ ?_
       ·
        intro done G w ac_ hd hp hn ⟨hC, hg, A16_, C16_, O16_, hT16, hBx⟩ hM
        have hB := hBx
        have f15 : ac_.tmps[15]? = some (.int .i64 4) := hM.old0 rfl rfl
        have hF := (hM.fr.add f15)
        exact OpVal.draw hF (opMove rfl) ⟨G, fun _ _ h => h, ⟨hC, hg, A16_, C16_, O16_, (fun h => ⟨(put_other rfl).trans (hT16 h).1, (hT16 h).2⟩), hBx⟩, rfl⟩
       refine dsNone (j := 13) rfl ?_ ?_
       ·
        intro done G w ac_ hd hp hn ⟨hC, hg, A16_, C16_, O16_, hT16, hBx⟩ hM
        have hB := hBx
        have f4 : ac_.tmps[4]? = some (.int .i64 4) := hM.old0 rfl rfl
        have hF := (hM.fr.add f4)
        exact OpVal.draw hF (opMove rfl) ⟨G, fun _ _ h => h, ⟨hC, hg, A16_, C16_, O16_, (fun h => ⟨(put_other rfl).trans (hT16 h).1, (hT16 h).2⟩), hBx⟩, rfl⟩
       refine dsNone (j := 14) rfl ?_ ?_
       ·
        intro done G w ac_ hd hp hn ⟨hC, hg, A16_, C16_, O16_, hT16, hBx⟩ hM
        have hB := hBx
        have f59 := hM.eqv (s := 59) 11 rfl (hp 11 rfl) rfl rfl
        have f60 := hM.eqv (s := 60) 12 rfl (hp 12 rfl) rfl rfl
        have hF := ((hM.fr.add f59).add f60)
        exact OpVal.draw hF (opMinN rfl rfl) ⟨G, fun _ _ h => h, ⟨hC, hg, A16_, C16_, O16_, (fun h => ⟨(put_other rfl).trans (hT16 h).1, (hT16 h).2⟩), hBx⟩, rfl⟩
       refine dsNone (j := 15) rfl ?_ ?_
       ·
        intro done G w ac_ hd hp hn ⟨hC, hg, A16_, C16_, O16_, hT16, hBx⟩ hM
        have hB := hBx
        have f50 := hM.eqv (s := 50) 2 rfl (hp 2 rfl) rfl rfl
        have f58 := hM.eqv (s := 58) 10 rfl (hp 10 rfl) rfl rfl
        have f61 := hM.eqv (s := 61) 13 rfl (hp 13 rfl) rfl rfl
        have hF := (((hM.fr.add f50).add f58).add f61)
        exact OpVal.draw hF (opBuild (ps := [(0, .tmp 50), (1, .tmp 58), (2, .tmp 61)]) (cs := ((.int .i64 sq) :: (((digI (((100 : UInt8) + (x163 &&& (7 : UInt8)))))).cells ++ ((Value.int .i64 (((min 4 4 : Nat) : Int))) :: [])))) so58 zero58 rfl rfl (by simp [buildCells, Value.cells])) ⟨G, fun _ _ h => h, ⟨hC, hg, A16_, C16_, O16_, (fun h => ⟨(put_other rfl).trans (hT16 h).1, (hT16 h).2⟩), hBx⟩, rfl⟩
       refine dsNone (j := 16) rfl ?_ ?_
       ·
        intro done G w ac_ hd hp hn ⟨hC, hg, A16_, C16_, O16_, hT16, hBx⟩ hM
        have hB := hBx
        have f62 := hM.eqv (s := 62) 14 rfl (hp 14 rfl) rfl rfl
        have hF := (hM.fr.add f62)
        exact drawBsl hF (α := Stand) (ps := [(0, .tmp 62)]) (xs := [(Stand.mk sq ((digI (((100 : UInt8) + (x163 &&& (7 : UInt8)))))) (((min 4 4 : Nat) : Int)))]) (rows := [((.int .i64 sq) :: (((digI (((100 : UInt8) + (x163 &&& (7 : UInt8)))))).cells ++ ((Value.int .i64 (((min 4 4 : Nat) : Int))) :: [])))]) elo47 rfl rfl hC.holds rfl rfl rfl ⟨rfl, trivial⟩ (fun b G' w' hk hr => ⟨G', hk.gle, ⟨hC.trans hk, fun b o h => hk.gle b o (hg b o h), A16_, C16_, O16_, (fun h => ⟨(put_other rfl).trans (hT16 h).1, (hT16 h).2.mono hk.gle⟩), hBx.ext hk⟩, ⟨b, rfl, hr⟩⟩)
       refine dsNone (j := 17) rfl ?_ ?_
       ·
        intro done G w ac_ hd hp hn ⟨hC, hg, A16_, C16_, O16_, hT16, hBx⟩ hM
        have hB := hBx
        replace hOqs := hOqs.mono hg
        have f49 := hM.eqv (s := 49) 1 rfl (hp 1 rfl) rfl rfl
        obtain ⟨v_, f63, ⟨b171, rfl, hs172⟩⟩ := hM.new 15 _ _ rfl (hp 15 rfl) rfl
        have hF := ((hM.fr.add f49).add f63)
        simp only [hd, hn 18 _ rfl rfl, cond_false] at hBx
        exact drawAppend (α := Stand) (bl := [(b13, 49, [(.int .i64 nd), (.int .i64 1), (.int .i64 0), (.slice A11 (([baseI]).length) cap12), (.slice none 0 0), (.slice qsA qs.length qsC)]), (b7, 49, [(.int .i64 0), (.int .i64 0), (.int .i64 0), (.slice none 0 0), (.slice none 0 0), (.slice none 0 0)]), (b6, 28, dg.cells), (b5, 46, [(.bool p.other), (.bool p.same), (.int .u8 (((p.b).toNat : Int))), (.int .i64 p.view), (.slice (some ⟨b165, o166, none⟩) p.proposed.length cap4)])]) (o := qsO) (r := []) hF elo47 hC hBx rfl rfl hOqs hs172 (by have q := toldQ_len hq; simp; omega) rfl (fun A_ cap_ o_ w' hC hB hO_ => ⟨G, fun _ _ h => h, ⟨hC, hg, A_, cap_, o_, (fun _ => ⟨put_same hM.sz rfl, hO_⟩), by simpa [Done.set, hn 18 _ rfl rfl] using hB⟩, trivial⟩)
       refine dsNone (j := 18) rfl ?_ ?_
       ·
        intro done G w ac_ hd hp hn ⟨hC, hg, A16_, C16_, O16_, hT16, hBx⟩ hM
        have hB := hBx
        have f13 : ac_.tmps[13]? = some (.pointer (some ⟨b13, 0, none⟩)) := hM.old0 rfl rfl
        have hF := (hM.fr.add f13)
        exact OpVal.draw hF (opFieldAddr rfl fo49_5) ⟨G, fun _ _ h => h, ⟨hC, hg, A16_, C16_, O16_, (fun h => ⟨(put_other rfl).trans (hT16 h).1, (hT16 h).2⟩), hBx⟩, rfl⟩
       refine dsNone (j := 19) rfl ?_ ?_
       ·
        intro done G w ac_ hd hp hn ⟨hC, hg, A16_, C16_, O16_, hT16, hBx⟩ hM
        have hB := hBx
        have f64 := (hT16 (hp 16 rfl)).1
        have f65 := hM.eqv (s := 65) 17 rfl (hp 17 rfl) rfl rfl
        have hF := ((hM.fr.add f64).add f65)
        have hB := hBx
        try simp only [hd, cond_false] at hB
        exact drawStore hF 0 (vs := [(.slice A16_ (((qs ++ [(Stand.mk sq ((digI (((100 : UInt8) + (x163 &&& (7 : UInt8)))))) (((min 4 4 : Nat) : Int)))])).length) C16_)]) (cs := [(.int .i64 nd), (.int .i64 1), (.int .i64 0), (.slice A11 (([baseI]).length) cap12), (.slice none 0 0), (.slice qsA qs.length qsC)]) (cs' := [(.int .i64 nd), (.int .i64 1), (.int .i64 0), (.slice A11 (([baseI]).length) cap12), (.slice none 0 0), (.slice A16_ (((qs ++ [(Stand.mk sq ((digI (((100 : UInt8) + (x163 &&& (7 : UInt8)))))) (((min 4 4 : Nat) : Int)))])).length) C16_)]) hC hB rfl rfl rfl sz47 rfl rfl rfl (by simp [Mark.cells, Stand.cells]) rfl (fun w' hC hB => ⟨G, fun _ _ h => h, ⟨hC, hg, A16_, C16_, O16_, (fun h => ⟨(hT16 h).1, (hT16 h).2⟩), by simpa [Done.set] using hB⟩, trivial⟩)
       exact dsNil
      ·
       intro done G w ac_ hall ⟨hC, hg, A174, cap175, o176, hT16, hB⟩ hM
       replace hs2 := hs2.mono hg
       replace r9 := r9.mono hg
       replace hOqs := hOqs.mono hg
       try simp only [hall 18 (by decide), cond_true] at hB
       have f2 : ac_.tmps[2]? = some (.int .i64 sq) := hM.old0 rfl rfl
       have f4 : ac_.tmps[4]? = some (.int .i64 4) := hM.old0 rfl rfl
       have f5 : ac_.tmps[5]? = some (.bool false) := hM.old0 rfl rfl
       have f6 : ac_.tmps[6]? = some (.pointer (some ⟨b5, 0, none⟩)) := hM.old0 rfl rfl
       have f9 : ac_.tmps[9]? = some (.pointer (some ⟨b6, 0, none⟩)) := hM.old0 rfl rfl
       have f12 : ac_.tmps[12]? = some (.pointer (some ⟨b7, 0, none⟩)) := hM.old0 rfl rfl
       have f13 : ac_.tmps[13]? = some (.pointer (some ⟨b13, 0, none⟩)) := hM.old0 rfl rfl
       have f14 : ac_.tmps[14]? = some (.int .i64 (((k : Nat) : Int))) := hM.old0 rfl rfl
       have hO173 := (hT16 (hall 16 (by decide))).2
       try simp only [hall 16 (by decide), cond_true] at hB
       replace hB : Bxs G w w0.heap.size ([(b13, 49, [(.int .i64 nd), (.int .i64 1), (.int .i64 0), (.slice A11 (([baseI]).length) cap12), (.slice none 0 0), (.slice A174 (((qs ++ [(Stand.mk sq ((digI (((100 : UInt8) + (x163 &&& (7 : UInt8)))))) (((min 4 4 : Nat) : Int)))])).length) cap175)]), (b7, 49, [(.int .i64 0), (.int .i64 0), (.int .i64 0), (.slice none 0 0), (.slice none 0 0), (.slice none 0 0)]), (b6, 28, dg.cells), (b5, 46, [(.bool p.other), (.bool p.same), (.int .u8 (((p.b).toNat : Int))), (.int .i64 p.view), (.slice (some ⟨b165, o166, none⟩) p.proposed.length cap4)])] ++ (Option.toList o176 ++ [])) := hB
       refine ⟨((((((((Env.nil.put 2 (.int .i64 sq)).put 4 (.int .i64 4)).put 5 (.bool false)).put 6 (.pointer (some ⟨b5, 0, none⟩))).put 9 (.pointer (some ⟨b6, 0, none⟩))).put 12 (.pointer (some ⟨b7, 0, none⟩))).put 13 (.pointer (some ⟨b13, 0, none⟩))).put 14 (.int .i64 (((k : Nat) : Int)))), ((((((((hM.fr.add f2).add f4).add f5).add f6).add f9).add f12).add f13).add f14), ?_⟩
       clear hM hall
       refine wcOf ?_
       refine wcRegion ?_
       refine wlVal (opMove rfl) rfl ?_
       refine wlVal (opIncr rfl rfl (by have q := of_decide_eq_true h14; have q2 := of_decide_eq_true h80; omega)) rfl ?_
       refine wlVal (opAssign rfl) rfl ?_
       refine wlRound ?_
       exact (IH0 (k + 1, A174, cap175, o176, (qs ++ [(Stand.mk sq ((digI (((100 : UInt8) + (x163 &&& (7 : UInt8)))))) (((min 4 4 : Nat) : Int)))])) _ _ ⟨hC, hB, hs2, r9, hO173, (of_decide_eq_true h80), (of_decide_eq_true h14), (by rw [toldQ_step, ← hq]; simp only [toldS, getD_of hx164, h146, h161, h162, Bool.and_true, Bool.and_false, Bool.true_and, Bool.false_and, Bool.not_true, Bool.not_false, cond_true, cond_false]; first | done | rfl)⟩ (by have q := of_decide_eq_true h14; show p.proposed.length - (k + 1) < p.proposed.length - k; omega)).sub (fun _ ha => ((((((((ha.start.cons ha (t := 2) rfl).cons ha (t := 4) rfl).cons ha (t := 5) (by rw [h161]; rfl)).cons ha (t := 6) rfl).cons ha (t := 9) rfl).cons ha (t := 12) rfl).cons ha (t := 13) rfl).cons ha (t := 14) rfl))
     ·
      skip
      refine wcCondF rfl ?_
      refine wcSkip ?_
      refine wcOf ?_
      obtain ⟨x177, hx178⟩ : ∃ y_, p.proposed[k]? = some y_ := ⟨_, List.getElem?_eq_getElem (of_decide_eq_true h14)⟩
      obtain ⟨b179, o180, row181, hA184, hr182, hi183⟩ := hs2.elem hx178; subst hA184
      obtain rfl := hi183
      refine wcDraw fmix (by kernel_rfl) (by kernel_rfl) (vAt [(fun _ v_ => v_ = (.pointer (some ⟨b13, 5, none⟩))), (fun _ v_ => v_ = (.slice qsA qs.length qsC)), (fun _ v_ => v_ = (.int .i64 sq)), (fun _ v_ => v_ = (.pointer (some ⟨b5, 4, none⟩))), (fun _ v_ => v_ = (.slice (some ⟨b179, o180, none⟩) p.proposed.length cap4)), (fun _ v_ => v_ = (.int .i64 (((k : Nat) : Int)))), (fun _ v_ => v_ = (.pointer (some ⟨b179, o180 + k * 1, none⟩))), (fun _ v_ => v_ = (.int .u8 (((x177).toNat : Int)))), (fun _ v_ => v_ = (.int .u8 ((((x177 &&& (7 : UInt8))).toNat : Int)))), (fun _ v_ => v_ = (.int .u8 (((((100 : UInt8) + (x177 &&& (7 : UInt8)))).toNat : Int)))), (fun _ v_ => v_ = (.agg ((digI (((100 : UInt8) + (x177 &&& (7 : UInt8)))))).cells.toArray)), (fun _ v_ => v_ = (.int .i64 (((k : Nat) : Int)))), (fun _ v_ => v_ = (.int .i64 4)), (fun _ v_ => v_ = (.int .i64 (((min k 4 : Nat) : Int)))), (fun _ v_ => v_ = (.agg ((.int .i64 sq) :: (((digI (((100 : UInt8) + (x177 &&& (7 : UInt8)))))).cells ++ ((Value.int .i64 (((min k 4 : Nat) : Int))) :: []))).toArray)), (fun G v => ∃ bb_, v = .slice (some ⟨bb_, 0, none⟩) 1 1 ∧ Sl G v ([(Stand.mk sq ((digI (((100 : UInt8) + (x177 &&& (7 : UInt8)))))) (((min k 4 : Nat) : Int)))] : List Stand)), (fun _ _ => True), (fun _ v_ => v_ = (.pointer (some ⟨b13, 5, none⟩))), (fun _ _ => True)]) (fun done ac_ G' w => Cx w0 G0 G' w ∧ GLe G G' ∧ ∃ (A16_ : Option Addr) (C16_ : Nat) (O16_ : Option Bx), (done 16 = true → ac_.tmps[64]? = some (.slice A16_ (((qs ++ [(Stand.mk sq ((digI (((100 : UInt8) + (x177 &&& (7 : UInt8)))))) (((min k 4 : Nat) : Int)))])).length) C16_) ∧ Ow G' O16_ 58 (.slice A16_ (((qs ++ [(Stand.mk sq ((digI (((100 : UInt8) + (x177 &&& (7 : UInt8)))))) (((min k 4 : Nat) : Int)))])).length) C16_) ((qs ++ [(Stand.mk sq ((digI (((100 : UInt8) + (x177 &&& (7 : UInt8)))))) (((min k 4 : Nat) : Int)))]) : List Stand)) ∧ Bxs G' w w0.heap.size (([(b13, 49, (bif done 18 then [(.int .i64 nd), (.int .i64 1), (.int .i64 0), (.slice A11 (([baseI]).length) cap12), (.slice none 0 0), (.slice A16_ (((qs ++ [(Stand.mk sq ((digI (((100 : UInt8) + (x177 &&& (7 : UInt8)))))) (((min k 4 : Nat) : Int)))])).length) C16_)] else [(.int .i64 nd), (.int .i64 1), (.int .i64 0), (.slice A11 (([baseI]).length) cap12), (.slice none 0 0), (.slice qsA qs.length qsC)])), (b7, 49, [(.int .i64 0), (.int .i64 0), (.int .i64 0), (.slice none 0 0), (.slice none 0 0), (.slice none 0 0)]), (b6, 28, dg.cells), (b5, 46, [(.bool p.other), (.bool p.same), (.int .u8 (((p.b).toNat : Int))), (.int .i64 p.view), (.slice (some ⟨b179, o180, none⟩) p.proposed.length cap4)])] ++ (Option.toList (bif done 16 then O16_ else qsO) ++ [])))) G (vAt_mono ⟨fun _ _ _ _ h => h, fun _ _ _ _ h => h, fun _ _ _ _ h => h, fun _ _ _ _ h => h, fun _ _ _ _ h => h, fun _ _ _ _ h => h, fun _ _ _ _ h => h, fun _ _ _ _ h => h, fun _ _ _ _ h => h, fun _ _ _ _ h => h, fun _ _ _ _ h => h, fun _ _ _ _ h => h, fun _ _ _ _ h => h, fun _ _ _ _ h => h, fun _ _ _ _ h => h, fun _ _ _ hg => fun ⟨b, h1, h2⟩ => ⟨b, h1, h2.mono hg⟩, fun _ _ _ _ h => h, fun _ _ _ _ h => h, fun _ _ _ _ h => h, trivial⟩) (fun _ _ => ⟨hC.drew, fun _ _ h => h, none, 0, none, (fun h => by cases h), by simpa using hB.drew⟩) ?_ ?_
      ·
       refine dsNone (j := 1) rfl ?_ ?_
       ·
        intro done G w ac_ hd hp hn ⟨hC, hg, A16_, C16_, O16_, hT16, hBx⟩ hM
        have hB := hBx
        have f13 : ac_.tmps[13]? = some (.pointer (some ⟨b13, 0, none⟩)) := hM.old0 rfl rfl
        have hF := (hM.fr.add f13)
        exact OpVal.draw hF (opFieldAddr rfl fo49_5) ⟨G, fun _ _ h => h, ⟨hC, hg, A16_, C16_, O16_, (fun h => ⟨(put_other rfl).trans (hT16 h).1, (hT16 h).2⟩), hBx⟩, rfl⟩
       refine dsNone (j := 2) rfl ?_ ?_
       ·
        intro done G w ac_ hd hp hn ⟨hC, hg, A16_, C16_, O16_, hT16, hBx⟩ hM
        have hB := hBx
        try simp only [hn 18 _ rfl rfl, cond_false] at hB
        have f48 := hM.eqv (s := 48) 0 rfl (hp 0 rfl) rfl rfl
        have hF := (hM.fr.add f48)
        exact OpVal.draw hF (opLoadOne (v := (.slice qsA qs.length qsC)) rfl (hB.cell (i := 0) rfl rfl) one47) ⟨G, fun _ _ h => h, ⟨hC, hg, A16_, C16_, O16_, (fun h => ⟨(put_other rfl).trans (hT16 h).1, (hT16 h).2⟩), hBx⟩, rfl⟩
       refine dsNone (j := 3) rfl ?_ ?_
       ·
        intro done G w ac_ hd hp hn ⟨hC, hg, A16_, C16_, O16_, hT16, hBx⟩ hM
        have hB := hBx
        have f2 : ac_.tmps[2]? = some (.int .i64 sq) := hM.old0 rfl rfl
        have hF := (hM.fr.add f2)
        exact OpVal.draw hF (opMove rfl) ⟨G, fun _ _ h => h, ⟨hC, hg, A16_, C16_, O16_, (fun h => ⟨(put_other rfl).trans (hT16 h).1, (hT16 h).2⟩), hBx⟩, rfl⟩
       refine dsNone (j := 4) rfl ?_ ?_
       ·
        intro done G w ac_ hd hp hn ⟨hC, hg, A16_, C16_, O16_, hT16, hBx⟩ hM
        have hB := hBx
        have f6 : ac_.tmps[6]? = some (.pointer (some ⟨b5, 0, none⟩)) := hM.old0 rfl rfl
        have hF := (hM.fr.add f6)
        exact OpVal.draw hF (opFieldAddr rfl fo46_4) ⟨G, fun _ _ h => h, ⟨hC, hg, A16_, C16_, O16_, (fun h => ⟨(put_other rfl).trans (hT16 h).1, (hT16 h).2⟩), hBx⟩, rfl⟩
       refine dsNone (j := 5) rfl ?_ ?_
       ·
        intro done G w ac_ hd hp hn ⟨hC, hg, A16_, C16_, O16_, hT16, hBx⟩ hM
        have hB := hBx
        try simp only [hn 18 _ rfl rfl, cond_false] at hB
        have f51 := hM.eqv (s := 51) 3 rfl (hp 3 rfl) rfl rfl
        have hF := (hM.fr.add f51)
        exact OpVal.draw hF (opLoadOne (v := (.slice (some ⟨b179, o180, none⟩) p.proposed.length cap4)) rfl (hB.cell (i := 3) rfl rfl) one44) ⟨G, fun _ _ h => h, ⟨hC, hg, A16_, C16_, O16_, (fun h => ⟨(put_other rfl).trans (hT16 h).1, (hT16 h).2⟩), hBx⟩, rfl⟩
       refine dsNone (j := 6) rfl ?_ ?_
       ·
        intro done G w ac_ hd hp hn ⟨hC, hg, A16_, C16_, O16_, hT16, hBx⟩ hM
        have hB := hBx
        have f14 : ac_.tmps[14]? = some (.int .i64 (((k : Nat) : Int))) := hM.old0 rfl rfl
        have hF := (hM.fr.add f14)
        exact OpVal.draw hF (opMove rfl) ⟨G, fun _ _ h => h, ⟨hC, hg, A16_, C16_, O16_, (fun h => ⟨(put_other rfl).trans (hT16 h).1, (hT16 h).2⟩), hBx⟩, rfl⟩
       refine dsNone (j := 7) rfl ?_ ?_
       ·
        intro done G w ac_ hd hp hn ⟨hC, hg, A16_, C16_, O16_, hT16, hBx⟩ hM
        have hB := hBx
        have f52 := hM.eqv (s := 52) 4 rfl (hp 4 rfl) rfl rfl
        have f53 := hM.eqv (s := 53) 5 rfl (hp 5 rfl) rfl rfl
        have hF := ((hM.fr.add f52).add f53)
        exact OpVal.draw hF (opIndexAddr rfl rfl slo44 (of_decide_eq_true h14)) ⟨G, fun _ _ h => h, ⟨hC, hg, A16_, C16_, O16_, (fun h => ⟨(put_other rfl).trans (hT16 h).1, (hT16 h).2⟩), hBx⟩, rfl⟩
       refine dsNone (j := 8) rfl ?_ ?_
       ·
        intro done G w ac_ hd hp hn ⟨hC, hg, A16_, C16_, O16_, hT16, hBx⟩ hM
        have hB := hBx
        replace hr182 := hr182.mono hg
        have f54 := hM.eqv (s := 54) 6 rfl (hp 6 rfl) rfl rfl
        have hF := (hM.fr.add f54)
        exact OpVal.draw hF (opLoadOne (v := (.int .u8 (((x177).toNat : Int)))) rfl (RowG.cell0 hC.holds hr182 rfl) one5) ⟨G, fun _ _ h => h, ⟨hC, hg, A16_, C16_, O16_, (fun h => ⟨(put_other rfl).trans (hT16 h).1, (hT16 h).2⟩), hBx⟩, rfl⟩
       refine dsNone (j := 9) rfl ?_ ?_
       ·
        intro done G w ac_ hd hp hn ⟨hC, hg, A16_, C16_, O16_, hT16, hBx⟩ hM
        have hB := hBx
        have f55 := hM.eqv (s := 55) 7 rfl (hp 7 rfl) rfl rfl
        have hF := (hM.fr.add f55)
        exact OpVal.draw hF (opAndU8 (a := x177) (b := (7 : UInt8)) rfl rfl) ⟨G, fun _ _ h => h, ⟨hC, hg, A16_, C16_, O16_, (fun h => ⟨(put_other rfl).trans (hT16 h).1, (hT16 h).2⟩), hBx⟩, rfl⟩
       refine dsNone (j := 10) rfl ?_ ?_
       ·
        intro done G w ac_ hd hp hn ⟨hC, hg, A16_, C16_, O16_, hT16, hBx⟩ hM
        have hB := hBx
        have f56 := hM.eqv (s := 56) 8 rfl (hp 8 rfl) rfl rfl
        have hF := (hM.fr.add f56)
        exact OpVal.draw hF (opAddU8 (a := (100 : UInt8)) (b := (x177 &&& (7 : UInt8))) rfl rfl) ⟨G, fun _ _ h => h, ⟨hC, hg, A16_, C16_, O16_, (fun h => ⟨(put_other rfl).trans (hT16 h).1, (hT16 h).2⟩), hBx⟩, rfl⟩
       refine dsNone (j := 11) rfl ?_ ?_
       ·
        intro done G w ac_ hd hp hn ⟨hC, hg, A16_, C16_, O16_, hT16, hBx⟩ hM
        have hB := hBx
        have f57 := hM.eqv (s := 57) 9 rfl (hp 9 rfl) rfl rfl
        have hF := (hM.fr.add f57)
        exact drawCallS hF rfl co16 rfl (digest_ret _ _ hC.holds (((100 : UInt8) + (x177 &&& (7 : UInt8))))) (fun w' hk => ⟨G, fun _ _ h => h, ⟨hC.trans hk, hg, A16_, C16_, O16_, (fun h => ⟨(put_other rfl).trans (hT16 h).1, (hT16 h).2⟩), hBx.ext hk⟩, rfl⟩)
       refine dsNone (j := 12) rfl ?_ ?_
       ·
        intro done G w ac_ hd hp hn ⟨hC, hg, A16_, C16_, O16_, hT16, hBx⟩ hM
        have hB := hBx
        have f15 : ac_.tmps[15]? = some (.int .i64 (((k : Nat) : Int))) := hM.old0 rfl rfl
        have hF := (hM.fr.add f15)
        exact OpVal.draw hF (opMove rfl) ⟨G, fun _ _ h => h, ⟨hC, hg, A16_, C16_, O16_, (fun h => ⟨(put_other rfl).trans (hT16 h).1, (hT16 h).2⟩), hBx⟩, rfl⟩
       refine dsNone (j := 13) rfl ?_ ?_
       ·
        intro done G w ac_ hd hp hn ⟨hC, hg, A16_, C16_, O16_, hT16, hBx⟩ hM
        have hB := hBx
        have f4 : ac_.tmps[4]? = some (.int .i64 4) := hM.old0 rfl rfl
        have hF := (hM.fr.add f4)
        exact OpVal.draw hF (opMove rfl) ⟨G, fun _ _ h => h, ⟨hC, hg, A16_, C16_, O16_, (fun h => ⟨(put_other rfl).trans (hT16 h).1, (hT16 h).2⟩), hBx⟩, rfl⟩
       refine dsNone (j := 14) rfl ?_ ?_
       ·
        intro done G w ac_ hd hp hn ⟨hC, hg, A16_, C16_, O16_, hT16, hBx⟩ hM
        have hB := hBx
        have f59 := hM.eqv (s := 59) 11 rfl (hp 11 rfl) rfl rfl
        have f60 := hM.eqv (s := 60) 12 rfl (hp 12 rfl) rfl rfl
        have hF := ((hM.fr.add f59).add f60)
        exact OpVal.draw hF (opMinN rfl rfl) ⟨G, fun _ _ h => h, ⟨hC, hg, A16_, C16_, O16_, (fun h => ⟨(put_other rfl).trans (hT16 h).1, (hT16 h).2⟩), hBx⟩, rfl⟩
       refine dsNone (j := 15) rfl ?_ ?_
       ·
        intro done G w ac_ hd hp hn ⟨hC, hg, A16_, C16_, O16_, hT16, hBx⟩ hM
        have hB := hBx
        have f50 := hM.eqv (s := 50) 2 rfl (hp 2 rfl) rfl rfl
        have f58 := hM.eqv (s := 58) 10 rfl (hp 10 rfl) rfl rfl
        have f61 := hM.eqv (s := 61) 13 rfl (hp 13 rfl) rfl rfl
        have hF := (((hM.fr.add f50).add f58).add f61)
        exact OpVal.draw hF (opBuild (ps := [(0, .tmp 50), (1, .tmp 58), (2, .tmp 61)]) (cs := ((.int .i64 sq) :: (((digI (((100 : UInt8) + (x177 &&& (7 : UInt8)))))).cells ++ ((Value.int .i64 (((min k 4 : Nat) : Int))) :: [])))) so58 zero58 rfl rfl (by simp [buildCells, Value.cells])) ⟨G, fun _ _ h => h, ⟨hC, hg, A16_, C16_, O16_, (fun h => ⟨(put_other rfl).trans (hT16 h).1, (hT16 h).2⟩), hBx⟩, rfl⟩
       refine dsNone (j := 16) rfl ?_ ?_
       ·
        intro done G w ac_ hd hp hn ⟨hC, hg, A16_, C16_, O16_, hT16, hBx⟩ hM
        have hB := hBx
        have f62 := hM.eqv (s := 62) 14 rfl (hp 14 rfl) rfl rfl
        have hF := (hM.fr.add f62)
        exact drawBsl hF (α := Stand) (ps := [(0, .tmp 62)]) (xs := [(Stand.mk sq ((digI (((100 : UInt8) + (x177 &&& (7 : UInt8)))))) (((min k 4 : Nat) : Int)))]) (rows := [((.int .i64 sq) :: (((digI (((100 : UInt8) + (x177 &&& (7 : UInt8)))))).cells ++ ((Value.int .i64 (((min k 4 : Nat) : Int))) :: [])))]) elo47 rfl rfl hC.holds rfl rfl rfl ⟨rfl, trivial⟩ (fun b G' w' hk hr => ⟨G', hk.gle, ⟨hC.trans hk, fun b o h => hk.gle b o (hg b o h), A16_, C16_, O16_, (fun h => ⟨(put_other rfl).trans (hT16 h).1, (hT16 h).2.mono hk.gle⟩), hBx.ext hk⟩, ⟨b, rfl, hr⟩⟩)
       refine dsNone (j := 17) rfl ?_ ?_
       ·
        intro done G w ac_ hd hp hn ⟨hC, hg, A16_, C16_, O16_, hT16, hBx⟩ hM
        have hB := hBx
        replace hOqs := hOqs.mono hg
        have f49 := hM.eqv (s := 49) 1 rfl (hp 1 rfl) rfl rfl
        obtain ⟨v_, f63, ⟨b185, rfl, hs186⟩⟩ := hM.new 15 _ _ rfl (hp 15 rfl) rfl
        have hF := ((hM.fr.add f49).add f63)
        simp only [hd, hn 18 _ rfl rfl, cond_false] at hBx
        exact drawAppend (α := Stand) (bl := [(b13, 49, [(.int .i64 nd), (.int .i64 1), (.int .i64 0), (.slice A11 (([baseI]).length) cap12), (.slice none 0 0), (.slice qsA qs.length qsC)]), (b7, 49, [(.int .i64 0), (.int .i64 0), (.int .i64 0), (.slice none 0 0), (.slice none 0 0), (.slice none 0 0)]), (b6, 28, dg.cells), (b5, 46, [(.bool p.other), (.bool p.same), (.int .u8 (((p.b).toNat : Int))), (.int .i64 p.view), (.slice (some ⟨b179, o180, none⟩) p.proposed.length cap4)])]) (o := qsO) (r := []) hF elo47 hC hBx rfl rfl hOqs hs186 (by have q := toldQ_len hq; simp; omega) rfl (fun A_ cap_ o_ w' hC hB hO_ => ⟨G, fun _ _ h => h, ⟨hC, hg, A_, cap_, o_, (fun _ => ⟨put_same hM.sz rfl, hO_⟩), by simpa [Done.set, hn 18 _ rfl rfl] using hB⟩, trivial⟩)
       refine dsNone (j := 18) rfl ?_ ?_
       ·
        intro done G w ac_ hd hp hn ⟨hC, hg, A16_, C16_, O16_, hT16, hBx⟩ hM
        have hB := hBx
        have f13 : ac_.tmps[13]? = some (.pointer (some ⟨b13, 0, none⟩)) := hM.old0 rfl rfl
        have hF := (hM.fr.add f13)
        exact OpVal.draw hF (opFieldAddr rfl fo49_5) ⟨G, fun _ _ h => h, ⟨hC, hg, A16_, C16_, O16_, (fun h => ⟨(put_other rfl).trans (hT16 h).1, (hT16 h).2⟩), hBx⟩, rfl⟩
       refine dsNone (j := 19) rfl ?_ ?_
       ·
        intro done G w ac_ hd hp hn ⟨hC, hg, A16_, C16_, O16_, hT16, hBx⟩ hM
        have hB := hBx
        have f64 := (hT16 (hp 16 rfl)).1
        have f65 := hM.eqv (s := 65) 17 rfl (hp 17 rfl) rfl rfl
        have hF := ((hM.fr.add f64).add f65)
        have hB := hBx
        try simp only [hd, cond_false] at hB
        exact drawStore hF 0 (vs := [(.slice A16_ (((qs ++ [(Stand.mk sq ((digI (((100 : UInt8) + (x177 &&& (7 : UInt8)))))) (((min k 4 : Nat) : Int)))])).length) C16_)]) (cs := [(.int .i64 nd), (.int .i64 1), (.int .i64 0), (.slice A11 (([baseI]).length) cap12), (.slice none 0 0), (.slice qsA qs.length qsC)]) (cs' := [(.int .i64 nd), (.int .i64 1), (.int .i64 0), (.slice A11 (([baseI]).length) cap12), (.slice none 0 0), (.slice A16_ (((qs ++ [(Stand.mk sq ((digI (((100 : UInt8) + (x177 &&& (7 : UInt8)))))) (((min k 4 : Nat) : Int)))])).length) C16_)]) hC hB rfl rfl rfl sz47 rfl rfl rfl (by simp [Mark.cells, Stand.cells]) rfl (fun w' hC hB => ⟨G, fun _ _ h => h, ⟨hC, hg, A16_, C16_, O16_, (fun h => ⟨(hT16 h).1, (hT16 h).2⟩), by simpa [Done.set] using hB⟩, trivial⟩)
       exact dsNil
      ·
       intro done G w ac_ hall ⟨hC, hg, A188, cap189, o190, hT16, hB⟩ hM
       replace hs2 := hs2.mono hg
       replace r9 := r9.mono hg
       replace hOqs := hOqs.mono hg
       try simp only [hall 18 (by decide), cond_true] at hB
       have f2 : ac_.tmps[2]? = some (.int .i64 sq) := hM.old0 rfl rfl
       have f4 : ac_.tmps[4]? = some (.int .i64 4) := hM.old0 rfl rfl
       have f5 : ac_.tmps[5]? = some (.bool false) := hM.old0 rfl rfl
       have f6 : ac_.tmps[6]? = some (.pointer (some ⟨b5, 0, none⟩)) := hM.old0 rfl rfl
       have f9 : ac_.tmps[9]? = some (.pointer (some ⟨b6, 0, none⟩)) := hM.old0 rfl rfl
       have f12 : ac_.tmps[12]? = some (.pointer (some ⟨b7, 0, none⟩)) := hM.old0 rfl rfl
       have f13 : ac_.tmps[13]? = some (.pointer (some ⟨b13, 0, none⟩)) := hM.old0 rfl rfl
       have f14 : ac_.tmps[14]? = some (.int .i64 (((k : Nat) : Int))) := hM.old0 rfl rfl
       have hO187 := (hT16 (hall 16 (by decide))).2
       try simp only [hall 16 (by decide), cond_true] at hB
       replace hB : Bxs G w w0.heap.size ([(b13, 49, [(.int .i64 nd), (.int .i64 1), (.int .i64 0), (.slice A11 (([baseI]).length) cap12), (.slice none 0 0), (.slice A188 (((qs ++ [(Stand.mk sq ((digI (((100 : UInt8) + (x177 &&& (7 : UInt8)))))) (((min k 4 : Nat) : Int)))])).length) cap189)]), (b7, 49, [(.int .i64 0), (.int .i64 0), (.int .i64 0), (.slice none 0 0), (.slice none 0 0), (.slice none 0 0)]), (b6, 28, dg.cells), (b5, 46, [(.bool p.other), (.bool p.same), (.int .u8 (((p.b).toNat : Int))), (.int .i64 p.view), (.slice (some ⟨b179, o180, none⟩) p.proposed.length cap4)])] ++ (Option.toList o190 ++ [])) := hB
       refine ⟨((((((((Env.nil.put 2 (.int .i64 sq)).put 4 (.int .i64 4)).put 5 (.bool false)).put 6 (.pointer (some ⟨b5, 0, none⟩))).put 9 (.pointer (some ⟨b6, 0, none⟩))).put 12 (.pointer (some ⟨b7, 0, none⟩))).put 13 (.pointer (some ⟨b13, 0, none⟩))).put 14 (.int .i64 (((k : Nat) : Int)))), ((((((((hM.fr.add f2).add f4).add f5).add f6).add f9).add f12).add f13).add f14), ?_⟩
       clear hM hall
       refine wcOf ?_
       refine wcRegion ?_
       refine wlVal (opMove rfl) rfl ?_
       refine wlVal (opIncr rfl rfl (by have q := of_decide_eq_true h14; have q2 := of_decide_eq_true h80; omega)) rfl ?_
       refine wlVal (opAssign rfl) rfl ?_
       refine wlRound ?_
       exact (IH0 (k + 1, A188, cap189, o190, (qs ++ [(Stand.mk sq ((digI (((100 : UInt8) + (x177 &&& (7 : UInt8)))))) (((min k 4 : Nat) : Int)))])) _ _ ⟨hC, hB, hs2, r9, hO187, (of_decide_eq_true h80), (of_decide_eq_true h14), (by rw [toldQ_step, ← hq]; simp only [toldS, getD_of hx178, h146, h161, h162, Bool.and_true, Bool.and_false, Bool.true_and, Bool.false_and, Bool.not_true, Bool.not_false, cond_true, cond_false]; first | done | rfl)⟩ (by have q := of_decide_eq_true h14; show p.proposed.length - (k + 1) < p.proposed.length - k; omega)).sub (fun _ ha => ((((((((ha.start.cons ha (t := 2) rfl).cons ha (t := 4) rfl).cons ha (t := 5) (by rw [h161]; rfl)).cons ha (t := 6) rfl).cons ha (t := 9) rfl).cons ha (t := 12) rfl).cons ha (t := 13) rfl).cons ha (t := 14) rfl))
    ·
     skip
     refine wlOff rfl rfl rfl rfl ?_
     refine wlOff rfl rfl rfl rfl ?_
     refine wlOff rfl rfl rfl rfl ?_
     refine wlVal (opPickF rfl rfl) rfl ?_
     refine wlThen ?_
     refine wcCondF rfl ?_
     refine wcSkip ?_
     refine wcOf ?_
     obtain ⟨x191, hx192⟩ : ∃ y_, p.proposed[k]? = some y_ := ⟨_, List.getElem?_eq_getElem (of_decide_eq_true h14)⟩
     obtain ⟨b193, o194, row195, hA198, hr196, hi197⟩ := hs2.elem hx192; subst hA198
     obtain rfl := hi197
     refine wcDraw fmix (by kernel_rfl) (by kernel_rfl) (vAt [(fun _ v_ => v_ = (.pointer (some ⟨b13, 5, none⟩))), (fun _ v_ => v_ = (.slice qsA qs.length qsC)), (fun _ v_ => v_ = (.int .i64 sq)), (fun _ v_ => v_ = (.pointer (some ⟨b5, 4, none⟩))), (fun _ v_ => v_ = (.slice (some ⟨b193, o194, none⟩) p.proposed.length cap4)), (fun _ v_ => v_ = (.int .i64 (((k : Nat) : Int)))), (fun _ v_ => v_ = (.pointer (some ⟨b193, o194 + k * 1, none⟩))), (fun _ v_ => v_ = (.int .u8 (((x191).toNat : Int)))), (fun _ v_ => v_ = (.int .u8 ((((x191 &&& (7 : UInt8))).toNat : Int)))), (fun _ v_ => v_ = (.int .u8 (((((100 : UInt8) + (x191 &&& (7 : UInt8)))).toNat : Int)))), (fun _ v_ => v_ = (.agg ((digI (((100 : UInt8) + (x191 &&& (7 : UInt8)))))).cells.toArray)), (fun _ v_ => v_ = (.int .i64 (((k : Nat) : Int)))), (fun _ v_ => v_ = (.int .i64 4)), (fun _ v_ => v_ = (.int .i64 (((min k 4 : Nat) : Int)))), (fun _ v_ => v_ = (.agg ((.int .i64 sq) :: (((digI (((100 : UInt8) + (x191 &&& (7 : UInt8)))))).cells ++ ((Value.int .i64 (((min k 4 : Nat) : Int))) :: []))).toArray)), (fun G v => ∃ bb_, v = .slice (some ⟨bb_, 0, none⟩) 1 1 ∧ Sl G v ([(Stand.mk sq ((digI (((100 : UInt8) + (x191 &&& (7 : UInt8)))))) (((min k 4 : Nat) : Int)))] : List Stand)), (fun _ _ => True), (fun _ v_ => v_ = (.pointer (some ⟨b13, 5, none⟩))), (fun _ _ => True)]) (fun done ac_ G' w => Cx w0 G0 G' w ∧ GLe G G' ∧ ∃ (A16_ : Option Addr) (C16_ : Nat) (O16_ : Option Bx), (done 16 = true → ac_.tmps[64]? = some (.slice A16_ (((qs ++ [(Stand.mk sq ((digI (((100 : UInt8) + (x191 &&& (7 : UInt8)))))) (((min k 4 : Nat) : Int)))])).length) C16_) ∧ Ow G' O16_ 58 (.slice A16_ (((qs ++ [(Stand.mk sq ((digI (((100 : UInt8) + (x191 &&& (7 : UInt8)))))) (((min k 4 : Nat) : Int)))])).length) C16_) ((qs ++ [(Stand.mk sq ((digI (((100 : UInt8) + (x191 &&& (7 : UInt8)))))) (((min k 4 : Nat) : Int)))]) : List Stand)) ∧ Bxs G' w w0.heap.size (([(b13, 49, (bif done 18 then [(.int .i64 nd), (.int .i64 1), (.int .i64 0), (.slice A11 (([baseI]).length) cap12), (.slice none 0 0), (.slice A16_ (((qs ++ [(Stand.mk sq ((digI (((100 : UInt8) + (x191 &&& (7 : UInt8)))))) (((min k 4 : Nat) : Int)))])).length) C16_)] else [(.int .i64 nd), (.int .i64 1), (.int .i64 0), (.slice A11 (([baseI]).length) cap12), (.slice none 0 0), (.slice qsA qs.length qsC)])), (b7, 49, [(.int .i64 0), (.int .i64 0), (.int .i64 0), (.slice none 0 0), (.slice none 0 0), (.slice none 0 0)]), (b6, 28, dg.cells), (b5, 46, [(.bool p.other), (.bool p.same), (.int .u8 (((p.b).toNat : Int))), (.int .i64 p.view), (.slice (some ⟨b193, o194, none⟩) p.proposed.length cap4)])] ++ (Option.toList (bif done 16 then O16_ else qsO) ++ [])))) G (vAt_mono ⟨fun _ _ _ _ h => h, fun _ _ _ _ h => h, fun _ _ _ _ h => h, fun _ _ _ _ h => h, fun _ _ _ _ h => h, fun _ _ _ _ h => h, fun _ _ _ _ h => h, fun _ _ _ _ h => h, fun _ _ _ _ h => h, fun _ _ _ _ h => h, fun _ _ _ _ h => h, fun _ _ _ _ h => h, fun _ _ _ _ h => h, fun _ _ _ _ h => h, fun _ _ _ _ h => h, fun _ _ _ hg => fun ⟨b, h1, h2⟩ => ⟨b, h1, h2.mono hg⟩, fun _ _ _ _ h => h, fun _ _ _ _ h => h, fun _ _ _ _ h => h, trivial⟩) (fun _ _ => ⟨hC.drew, fun _ _ h => h, none, 0, none, (fun h => by cases h), by simpa using hB.drew⟩) ?_ ?_
     ·
      refine dsNone (j := 1) rfl ?_ ?_
      ·
       intro done G w ac_ hd hp hn ⟨hC, hg, A16_, C16_, O16_, hT16, hBx⟩ hM
       have hB := hBx
       have f13 : ac_.tmps[13]? = some (.pointer (some ⟨b13, 0, none⟩)) := hM.old0 rfl rfl
       have hF := (hM.fr.add f13)
       exact OpVal.draw hF (opFieldAddr rfl fo49_5) ⟨G, fun _ _ h => h, ⟨hC, hg, A16_, C16_, O16_, (fun h => ⟨(put_other rfl).trans (hT16 h).1, (hT16 h).2⟩), hBx⟩, rfl⟩
      refine dsNone (j := 2) rfl ?_ ?_
      ·
       intro done G w ac_ hd hp hn ⟨hC, hg, A16_, C16_, O16_, hT16, hBx⟩ hM
       have hB := hBx
       try simp only [hn 18 _ rfl rfl, cond_false] at hB
       have f48 := hM.eqv (s := 48) 0 rfl (hp 0 rfl) rfl rfl
       have hF := (hM.fr.add f48)
       exact OpVal.draw hF (opLoadOne (v := (.slice qsA qs.length qsC)) rfl (hB.cell (i := 0) rfl rfl) one47) ⟨G, fun _ _ h => h, ⟨hC, hg, A16_, C16_, O16_, (fun h => ⟨(put_other rfl).trans (hT16 h).1, (hT16 h).2⟩), hBx⟩, rfl⟩
      refine dsNone (j := 3) rfl ?_ ?_
      ·
       intro done G w ac_ hd hp hn ⟨hC, hg, A16_, C16_, O16_, hT16, hBx⟩ hM
       have hB := hBx
       have f2 : ac_.tmps[2]? = some (.int .i64 sq) := hM.old0 rfl rfl
       have hF := (hM.fr.add f2)
       exact OpVal.draw hF (opMove rfl) ⟨G, fun _ _ h => h, ⟨hC, hg, A16_, C16_, O16_, (fun h => ⟨(put_other rfl).trans (hT16 h).1, (hT16 h).2⟩), hBx⟩, rfl⟩
      refine dsNone (j := 4) rfl ?_ ?_
      ·
       intro done G w ac_ hd hp hn ⟨hC, hg, A16_, C16_, O16_, hT16, hBx⟩ hM
       have hB := hBx
       have f6 : ac_.tmps[6]? = some (.pointer (some ⟨b5, 0, none⟩)) := hM.old0 rfl rfl
       have hF := (hM.fr.add f6)
       exact OpVal.draw hF (opFieldAddr rfl fo46_4) ⟨G, fun _ _ h => h, ⟨hC, hg, A16_, C16_, O16_, (fun h => ⟨(put_other rfl).trans (hT16 h).1, (hT16 h).2⟩), hBx⟩, rfl⟩
      refine dsNone (j := 5) rfl ?_ ?_
      ·
       intro done G w ac_ hd hp hn ⟨hC, hg, A16_, C16_, O16_, hT16, hBx⟩ hM
       have hB := hBx
       try simp only [hn 18 _ rfl rfl, cond_false] at hB
       have f51 := hM.eqv (s := 51) 3 rfl (hp 3 rfl) rfl rfl
       have hF := (hM.fr.add f51)
       exact OpVal.draw hF (opLoadOne (v := (.slice (some ⟨b193, o194, none⟩) p.proposed.length cap4)) rfl (hB.cell (i := 3) rfl rfl) one44) ⟨G, fun _ _ h => h, ⟨hC, hg, A16_, C16_, O16_, (fun h => ⟨(put_other rfl).trans (hT16 h).1, (hT16 h).2⟩), hBx⟩, rfl⟩
      refine dsNone (j := 6) rfl ?_ ?_
      ·
       intro done G w ac_ hd hp hn ⟨hC, hg, A16_, C16_, O16_, hT16, hBx⟩ hM
       have hB := hBx
       have f14 : ac_.tmps[14]? = some (.int .i64 (((k : Nat) : Int))) := hM.old0 rfl rfl
       have hF := (hM.fr.add f14)
       exact OpVal.draw hF (opMove rfl) ⟨G, fun _ _ h => h, ⟨hC, hg, A16_, C16_, O16_, (fun h => ⟨(put_other rfl).trans (hT16 h).1, (hT16 h).2⟩), hBx⟩, rfl⟩
      refine dsNone (j := 7) rfl ?_ ?_
      ·
       intro done G w ac_ hd hp hn ⟨hC, hg, A16_, C16_, O16_, hT16, hBx⟩ hM
       have hB := hBx
       have f52 := hM.eqv (s := 52) 4 rfl (hp 4 rfl) rfl rfl
       have f53 := hM.eqv (s := 53) 5 rfl (hp 5 rfl) rfl rfl
       have hF := ((hM.fr.add f52).add f53)
       exact OpVal.draw hF (opIndexAddr rfl rfl slo44 (of_decide_eq_true h14)) ⟨G, fun _ _ h => h, ⟨hC, hg, A16_, C16_, O16_, (fun h => ⟨(put_other rfl).trans (hT16 h).1, (hT16 h).2⟩), hBx⟩, rfl⟩
      refine dsNone (j := 8) rfl ?_ ?_
      ·
       intro done G w ac_ hd hp hn ⟨hC, hg, A16_, C16_, O16_, hT16, hBx⟩ hM
       have hB := hBx
       replace hr196 := hr196.mono hg
       have f54 := hM.eqv (s := 54) 6 rfl (hp 6 rfl) rfl rfl
       have hF := (hM.fr.add f54)
       exact OpVal.draw hF (opLoadOne (v := (.int .u8 (((x191).toNat : Int)))) rfl (RowG.cell0 hC.holds hr196 rfl) one5) ⟨G, fun _ _ h => h, ⟨hC, hg, A16_, C16_, O16_, (fun h => ⟨(put_other rfl).trans (hT16 h).1, (hT16 h).2⟩), hBx⟩, rfl⟩
      refine dsNone (j := 9) rfl ?_ ?_
      ·
       intro done G w ac_ hd hp hn ⟨hC, hg, A16_, C16_, O16_, hT16, hBx⟩ hM
       have hB := hBx
       have f55 := hM.eqv (s := 55) 7 rfl (hp 7 rfl) rfl rfl
       have hF := (hM.fr.add f55)
       exact OpVal.draw hF (opAndU8 (a := x191) (b := (7 : UInt8)) rfl rfl) ⟨G, fun _ _ h => h, ⟨hC, hg, A16_, C16_, O16_, (fun h => ⟨(put_other rfl).trans (hT16 h).1, (hT16 h).2⟩), hBx⟩, rfl⟩
      refine dsNone (j := 10) rfl ?_ ?_
      ·
       intro done G w ac_ hd hp hn ⟨hC, hg, A16_, C16_, O16_, hT16, hBx⟩ hM
       have hB := hBx
       have f56 := hM.eqv (s := 56) 8 rfl (hp 8 rfl) rfl rfl
       have hF := (hM.fr.add f56)
       exact OpVal.draw hF (opAddU8 (a := (100 : UInt8)) (b := (x191 &&& (7 : UInt8))) rfl rfl) ⟨G, fun _ _ h => h, ⟨hC, hg, A16_, C16_, O16_, (fun h => ⟨(put_other rfl).trans (hT16 h).1, (hT16 h).2⟩), hBx⟩, rfl⟩
      refine dsNone (j := 11) rfl ?_ ?_
      ·
       intro done G w ac_ hd hp hn ⟨hC, hg, A16_, C16_, O16_, hT16, hBx⟩ hM
       have hB := hBx
       have f57 := hM.eqv (s := 57) 9 rfl (hp 9 rfl) rfl rfl
       have hF := (hM.fr.add f57)
       exact drawCallS hF rfl co16 rfl (digest_ret _ _ hC.holds (((100 : UInt8) + (x191 &&& (7 : UInt8))))) (fun w' hk => ⟨G, fun _ _ h => h, ⟨hC.trans hk, hg, A16_, C16_, O16_, (fun h => ⟨(put_other rfl).trans (hT16 h).1, (hT16 h).2⟩), hBx.ext hk⟩, rfl⟩)
      refine dsNone (j := 12) rfl ?_ ?_
      ·
       intro done G w ac_ hd hp hn ⟨hC, hg, A16_, C16_, O16_, hT16, hBx⟩ hM
       have hB := hBx
       have f15 : ac_.tmps[15]? = some (.int .i64 (((k : Nat) : Int))) := hM.old0 rfl rfl
       have hF := (hM.fr.add f15)
       exact OpVal.draw hF (opMove rfl) ⟨G, fun _ _ h => h, ⟨hC, hg, A16_, C16_, O16_, (fun h => ⟨(put_other rfl).trans (hT16 h).1, (hT16 h).2⟩), hBx⟩, rfl⟩
      refine dsNone (j := 13) rfl ?_ ?_
      ·
       intro done G w ac_ hd hp hn ⟨hC, hg, A16_, C16_, O16_, hT16, hBx⟩ hM
       have hB := hBx
       have f4 : ac_.tmps[4]? = some (.int .i64 4) := hM.old0 rfl rfl
       have hF := (hM.fr.add f4)
       exact OpVal.draw hF (opMove rfl) ⟨G, fun _ _ h => h, ⟨hC, hg, A16_, C16_, O16_, (fun h => ⟨(put_other rfl).trans (hT16 h).1, (hT16 h).2⟩), hBx⟩, rfl⟩
      refine dsNone (j := 14) rfl ?_ ?_
      ·
       intro done G w ac_ hd hp hn ⟨hC, hg, A16_, C16_, O16_, hT16, hBx⟩ hM
       have hB := hBx
       have f59 := hM.eqv (s := 59) 11 rfl (hp 11 rfl) rfl rfl
       have f60 := hM.eqv (s := 60) 12 rfl (hp 12 rfl) rfl rfl
       have hF := ((hM.fr.add f59).add f60)
       exact OpVal.draw hF (opMinN rfl rfl) ⟨G, fun _ _ h => h, ⟨hC, hg, A16_, C16_, O16_, (fun h => ⟨(put_other rfl).trans (hT16 h).1, (hT16 h).2⟩), hBx⟩, rfl⟩
      refine dsNone (j := 15) rfl ?_ ?_
      ·
       intro done G w ac_ hd hp hn ⟨hC, hg, A16_, C16_, O16_, hT16, hBx⟩ hM
       have hB := hBx
       have f50 := hM.eqv (s := 50) 2 rfl (hp 2 rfl) rfl rfl
       have f58 := hM.eqv (s := 58) 10 rfl (hp 10 rfl) rfl rfl
       have f61 := hM.eqv (s := 61) 13 rfl (hp 13 rfl) rfl rfl
       have hF := (((hM.fr.add f50).add f58).add f61)
       exact OpVal.draw hF (opBuild (ps := [(0, .tmp 50), (1, .tmp 58), (2, .tmp 61)]) (cs := ((.int .i64 sq) :: (((digI (((100 : UInt8) + (x191 &&& (7 : UInt8)))))).cells ++ ((Value.int .i64 (((min k 4 : Nat) : Int))) :: [])))) so58 zero58 rfl rfl (by simp [buildCells, Value.cells])) ⟨G, fun _ _ h => h, ⟨hC, hg, A16_, C16_, O16_, (fun h => ⟨(put_other rfl).trans (hT16 h).1, (hT16 h).2⟩), hBx⟩, rfl⟩
      refine dsNone (j := 16) rfl ?_ ?_
      ·
       intro done G w ac_ hd hp hn ⟨hC, hg, A16_, C16_, O16_, hT16, hBx⟩ hM
       have hB := hBx
       have f62 := hM.eqv (s := 62) 14 rfl (hp 14 rfl) rfl rfl
       have hF := (hM.fr.add f62)
       exact drawBsl hF (α := Stand) (ps := [(0, .tmp 62)]) (xs := [(Stand.mk sq ((digI (((100 : UInt8) + (x191 &&& (7 : UInt8)))))) (((min k 4 : Nat) : Int)))]) (rows := [((.int .i64 sq) :: (((digI (((100 : UInt8) + (x191 &&& (7 : UInt8)))))).cells ++ ((Value.int .i64 (((min k 4 : Nat) : Int))) :: [])))]) elo47 rfl rfl hC.holds rfl rfl rfl ⟨rfl, trivial⟩ (fun b G' w' hk hr => ⟨G', hk.gle, ⟨hC.trans hk, fun b o h => hk.gle b o (hg b o h), A16_, C16_, O16_, (fun h => ⟨(put_other rfl).trans (hT16 h).1, (hT16 h).2.mono hk.gle⟩), hBx.ext hk⟩, ⟨b, rfl, hr⟩⟩)
      refine dsNone (j := 17) rfl ?_ ?_
      ·
       intro done G w ac_ hd hp hn ⟨hC, hg, A16_, C16_, O16_, hT16, hBx⟩ hM
       have hB := hBx
       replace hOqs := hOqs.mono hg
       have f49 := hM.eqv (s := 49) 1 rfl (hp 1 rfl) rfl rfl
       obtain ⟨v_, f63, ⟨b199, rfl, hs200⟩⟩ := hM.new 15 _ _ rfl (hp 15 rfl) rfl
       have hF := ((hM.fr.add f49).add f63)
       simp only [hd, hn 18 _ rfl rfl, cond_false] at hBx
       exact drawAppend (α := Stand) (bl := [(b13, 49, [(.int .i64 nd), (.int .i64 1), (.int .i64 0), (.slice A11 (([baseI]).length) cap12), (.slice none 0 0), (.slice qsA qs.length qsC)]), (b7, 49, [(.int .i64 0), (.int .i64 0), (.int .i64 0), (.slice none 0 0), (.slice none 0 0), (.slice none 0 0)]), (b6, 28, dg.cells), (b5, 46, [(.bool p.other), (.bool p.same), (.int .u8 (((p.b).toNat : Int))), (.int .i64 p.view), (.slice (some ⟨b193, o194, none⟩) p.proposed.length cap4)])]) (o := qsO) (r := []) hF elo47 hC hBx rfl rfl hOqs hs200 (by have q := toldQ_len hq; simp; omega) rfl (fun A_ cap_ o_ w' hC hB hO_ => ⟨G, fun _ _ h => h, ⟨hC, hg, A_, cap_, o_, (fun _ => ⟨put_same hM.sz rfl, hO_⟩), by simpa [Done.set, hn 18 _ rfl rfl] using hB⟩, trivial⟩)
      refine dsNone (j := 18) rfl ?_ ?_
      ·
       intro done G w ac_ hd hp hn ⟨hC, hg, A16_, C16_, O16_, hT16, hBx⟩ hM
       have hB := hBx
       have f13 : ac_.tmps[13]? = some (.pointer (some ⟨b13, 0, none⟩)) := hM.old0 rfl rfl
       have hF := (hM.fr.add f13)
       exact OpVal.draw hF (opFieldAddr rfl fo49_5) ⟨G, fun _ _ h => h, ⟨hC, hg, A16_, C16_, O16_, (fun h => ⟨(put_other rfl).trans (hT16 h).1, (hT16 h).2⟩), hBx⟩, rfl⟩
      refine dsNone (j := 19) rfl ?_ ?_
      ·
       intro done G w ac_ hd hp hn ⟨hC, hg, A16_, C16_, O16_, hT16, hBx⟩ hM
       have hB := hBx
       have f64 := (hT16 (hp 16 rfl)).1
       have f65 := hM.eqv (s := 65) 17 rfl (hp 17 rfl) rfl rfl
       have hF := ((hM.fr.add f64).add f65)
       have hB := hBx
       try simp only [hd, cond_false] at hB
       exact drawStore hF 0 (vs := [(.slice A16_ (((qs ++ [(Stand.mk sq ((digI (((100 : UInt8) + (x191 &&& (7 : UInt8)))))) (((min k 4 : Nat) : Int)))])).length) C16_)]) (cs := [(.int .i64 nd), (.int .i64 1), (.int .i64 0), (.slice A11 (([baseI]).length) cap12), (.slice none 0 0), (.slice qsA qs.length qsC)]) (cs' := [(.int .i64 nd), (.int .i64 1), (.int .i64 0), (.slice A11 (([baseI]).length) cap12), (.slice none 0 0), (.slice A16_ (((qs ++ [(Stand.mk sq ((digI (((100 : UInt8) + (x191 &&& (7 : UInt8)))))) (((min k 4 : Nat) : Int)))])).length) C16_)]) hC hB rfl rfl rfl sz47 rfl rfl rfl (by simp [Mark.cells, Stand.cells]) rfl (fun w' hC hB => ⟨G, fun _ _ h => h, ⟨hC, hg, A16_, C16_, O16_, (fun h => ⟨(hT16 h).1, (hT16 h).2⟩), by simpa [Done.set] using hB⟩, trivial⟩)
      exact dsNil
     ·
      intro done G w ac_ hall ⟨hC, hg, A202, cap203, o204, hT16, hB⟩ hM
      replace hs2 := hs2.mono hg
      replace r9 := r9.mono hg
      try simp only [hall 18 (by decide), cond_true] at hB
      have f2 : ac_.tmps[2]? = some (.int .i64 sq) := hM.old0 rfl rfl
      have f4 : ac_.tmps[4]? = some (.int .i64 4) := hM.old0 rfl rfl
      have f5 : ac_.tmps[5]? = some (.bool true) := hM.old0 rfl rfl
      have f6 : ac_.tmps[6]? = some (.pointer (some ⟨b5, 0, none⟩)) := hM.old0 rfl rfl
      have f9 : ac_.tmps[9]? = some (.pointer (some ⟨b6, 0, none⟩)) := hM.old0 rfl rfl
      have f12 : ac_.tmps[12]? = some (.pointer (some ⟨b7, 0, none⟩)) := hM.old0 rfl rfl
      have f13 : ac_.tmps[13]? = some (.pointer (some ⟨b13, 0, none⟩)) := hM.old0 rfl rfl
      have f14 : ac_.tmps[14]? = some (.int .i64 (((k : Nat) : Int))) := hM.old0 rfl rfl
      have hO201 := (hT16 (hall 16 (by decide))).2
      try simp only [hall 16 (by decide), cond_true] at hB
      replace hB : Bxs G w w0.heap.size ([(b13, 49, [(.int .i64 nd), (.int .i64 1), (.int .i64 0), (.slice A11 (([baseI]).length) cap12), (.slice none 0 0), (.slice A202 (((qs ++ [(Stand.mk sq ((digI (((100 : UInt8) + (x191 &&& (7 : UInt8)))))) (((min k 4 : Nat) : Int)))])).length) cap203)]), (b7, 49, [(.int .i64 0), (.int .i64 0), (.int .i64 0), (.slice none 0 0), (.slice none 0 0), (.slice none 0 0)]), (b6, 28, dg.cells), (b5, 46, [(.bool p.other), (.bool p.same), (.int .u8 (((p.b).toNat : Int))), (.int .i64 p.view), (.slice (some ⟨b193, o194, none⟩) p.proposed.length cap4)])] ++ (Option.toList o204 ++ [])) := hB
      refine ⟨((((((((Env.nil.put 2 (.int .i64 sq)).put 4 (.int .i64 4)).put 5 (.bool true)).put 6 (.pointer (some ⟨b5, 0, none⟩))).put 9 (.pointer (some ⟨b6, 0, none⟩))).put 12 (.pointer (some ⟨b7, 0, none⟩))).put 13 (.pointer (some ⟨b13, 0, none⟩))).put 14 (.int .i64 (((k : Nat) : Int)))), ((((((((hM.fr.add f2).add f4).add f5).add f6).add f9).add f12).add f13).add f14), ?_⟩
      clear hM hall
      refine wcOf ?_
      refine wcRegion ?_
      refine wlVal (opMove rfl) rfl ?_
      refine wlVal (opIncr rfl rfl (by have q := of_decide_eq_true h14; have q2 := of_decide_eq_true h80; omega)) rfl ?_
      refine wlVal (opAssign rfl) rfl ?_
      refine wlRound ?_
      exact (IH0 (k + 1, A202, cap203, o204, (qs ++ [(Stand.mk sq ((digI (((100 : UInt8) + (x191 &&& (7 : UInt8)))))) (((min k 4 : Nat) : Int)))])) _ _ ⟨hC, hB, hs2, r9, hO201, (of_decide_eq_true h80), (of_decide_eq_true h14), (by rw [toldQ_step, ← hq]; simp only [toldS, getD_of hx192, h146, h161, Bool.and_true, Bool.and_false, Bool.true_and, Bool.false_and, Bool.not_true, Bool.not_false, cond_true, cond_false]; first | done | rfl)⟩ (by have q := of_decide_eq_true h14; show p.proposed.length - (k + 1) < p.proposed.length - k; omega)).sub (fun _ ha => ((((((((ha.start.cons ha (t := 2) rfl).cons ha (t := 4) rfl).cons ha (t := 5) (by rw [h161]; rfl)).cons ha (t := 6) rfl).cons ha (t := 9) rfl).cons ha (t := 12) rfl).cons ha (t := 13) rfl).cons ha (t := 14) rfl))

end Go.Proofs.Ytbhkoipmojdkhaa
