/- What functions of the slots seat return, part 5. No condition. -/
import Derived.Test.YtljcgggflgbenaaGreatDoorZlG4
import Derived.Test.YtljcgggflgbenaaGreatDoorZlRef
set_option linter.all false
namespace Go.Proofs.YtljcgggflgbenaaGreatDoor
open Go Go.Gx Go.RowKit
def rhasB (c : Crew) (n : Int) : Bool := (check c == 0) && c.nodes.any (fun y => y == n)
def aheadB (a b : Stand) : Bool := decide (a.view < b.view) || (a.view == b.view) && lessB a.dig.l b.dig.l
def saidI (x : RVt) (v : Int) (d : Dig) : Int := bif x.has && decide (v < x.view) then 190 else bif x.has && (x.view == v) && !decide (x.dig = d) then 151 else 0
/-- A number of 64 bits. -/
def I6 (k : Int) : Prop := -9223372036854775808 ≤ k ∧ k ≤ 9223372036854775807
def inR (m : RfS) (k : Int) : Bool := decide (m.low < k) && decide (IntKind.wrap .i64 (k - m.low) ≤ 8)
def ixR (m : RfS) (k : Int) : Nat := (k - m.low - 1).toNat
theorem inR_iff {m : RfS} {k : Int} (h : RfOk m) (hk : I6 k) (hi : inR m k = true) : m.low < k ∧ k ≤ m.low + 8 := by
  simp only [inR, Bool.and_eq_true, decide_eq_true_eq] at hi
  obtain ⟨h1, h2⟩ := hi
  obtain ⟨l1, l2⟩ := h.low
  obtain ⟨k1, k2⟩ := hk
  rw [IntWalk.i64_in (k - m.low) (by omega)] at h2
  exact ⟨h1, by omega⟩
theorem inR_of {m : RfS} {k : Int} (h : RfOk m) (h1 : m.low < k) (h2 : k ≤ m.low + 8) : inR m k = true := by
  obtain ⟨l1, l2⟩ := h.low
  simp only [inR, Bool.and_eq_true, decide_eq_true_eq]
  rw [IntWalk.i64_in (k - m.low) (by omega)]; omega
theorem ixR_eq {m : RfS} {k : Int} (h : RfOk m) (hk : I6 k) (hi : inR m k = true) : IntKind.wrap .i64 (IntKind.wrap .i64 (k - m.low) - 1) = ((ixR m k : Nat) : Int) := by
  obtain ⟨h1, h2⟩ := inR_iff h hk hi
  obtain ⟨l1, l2⟩ := h.low
  rw [IntWalk.i64_in (k - m.low) (by omega), IntWalk.i64_in (k - m.low - 1) (by omega)]
  unfold ixR; omega
theorem ixR_lt {m : RfS} {k : Int} (h : RfOk m) (hk : I6 k) (hi : inR m k = true) : ixR m k < m.l.length := by
  obtain ⟨h1, h2⟩ := inR_iff h hk hi
  rw [h.len]; unfold ixR; omega
def votesR (nodes : List Int) (l : List RVt) (v : Int) (d : Dig) (wo : Int) : Nat → Nat
  | 0 => 0
  | k + 1 => votesR nodes l v d wo k + bif (l.getD k default).has && ((l.getD k default).view == v) && decide ((l.getD k default).dig = d) && (nodes.getD k 0 != wo) then 1 else 0
theorem votesR_le (nodes : List Int) (l : List RVt) (v : Int) (d : Dig) (wo : Int) : ∀ k, votesR nodes l v d wo k ≤ k
  | 0 => Nat.le_refl _
  | k + 1 => by
    have := votesR_le nodes l v d wo k
    unfold votesR
    cases (l.getD k default).has && ((l.getD k default).view == v) && decide ((l.getD k default).dig = d) && (nodes.getD k 0 != wo) <;> simp <;> omega
def prepR (m : RfS) (i : Nat) : Bool :=
  (m.l.getD i default).last.has && decide (IntKind.wrap .i64 (2 * m.crew.faults) ≤ ((votesR m.crew.nodes (m.l.getD i default).pre (m.l.getD i default).last.view (m.l.getD i default).last.dig (leaderI m.crew (m.l.getD i default).last.view) (m.l.getD i default).pre.length : Nat) : Int))
def preparedR (m : RfS) (k : Int) : Bool := inR m k && prepR m (ixR m k)
theorem prR_in {m : RfS} {k : Int} (h : preparedR m k = true) : inR m k = true := by
  unfold preparedR at h; simp at h; exact h.1
def committedR (m : RfS) (k : Int) : Bool :=
  preparedR m k && decide (most m.crew ≤ ((votesR m.crew.nodes (m.l.getD (ixR m k) default).com (m.l.getD (ixR m k) default).last.view (m.l.getD (ixR m k) default).last.dig 0 (m.l.getD (ixR m k) default).com.length : Nat) : Int))
def atR (m : RfS) (k : Int) : Stand × Bool :=
  bif !inR m k || !(m.l.getD (ixR m k) default).last.has then (Stand.mk 0 Dig.zero 0, false) else (Stand.mk k (m.l.getD (ixR m k) default).last.dig (m.l.getD (ixR m k) default).last.view, true)
def pR (m : RfS) : Nat → List Stand
  | 0 => []
  | k + 1 => pR m k ++ bif (m.l.getD k default).p.has then [Stand.mk (IntKind.wrap .i64 (IntKind.wrap .i64 (m.low + 1) + ((k : Nat) : Int))) (m.l.getD k default).p.dig (m.l.getD k default).p.view] else []
def qR (m : RfS) : Nat → List Stand
  | 0 => []
  | k + 1 => qR m k ++ (m.l.getD k default).q
theorem pR_len (m : RfS) : ∀ k, (pR m k).length ≤ k
  | 0 => Nat.le_refl _
  | k + 1 => by
    have := pR_len m k
    unfold pR
    cases (m.l.getD k default).p.has <;> simp <;> omega
theorem qR_len {m : RfS} (h : RfOk m) : ∀ k, (qR m k).length ≤ 4 * k
  | 0 => Nat.le_refl _
  | k + 1 => by
    have := qR_len h k
    unfold qR
    have h4 : (m.l.getD k default).q.length ≤ 4 := by
      rw [List.getD_eq_getElem?_getD]
      cases hx : m.l[k]? with
      | none => simp; exact Nat.zero_le _
      | some t => simp; exact h.q4 k t hx
    show (qR m k ++ (m.l.getD k default).q).length ≤ _
    rw [List.length_append]; omega
def insR (x : Stand) : List Stand → List Stand
  | [] => [x]
  | y :: r => bif aheadB x y then x :: y :: r else y :: insR x r
def withR (q : List Stand) (x : Stand) : List Stand :=
  insR x (bif decide (4 ≤ (q.filter (fun y => !decide (y.dig = x.dig))).length) then (q.filter (fun y => !decide (y.dig = x.dig))).drop 1 else q.filter (fun y => !decide (y.dig = x.dig)))
theorem with_len {n : Nat} {b : Bool} (h : decide ((4 : Int) ≤ ((n : Nat) : Int)) = b) : decide (4 ≤ n) = b := by rw [← h]; exact decide_eq_decide.2 (by omega)
theorem co66 : callOk Tryz.prog 66 = true := by kernel_rfl
theorem co28 : callOk Tryz.prog 28 = true := by kernel_rfl
theorem co67 : callOk Tryz.prog 67 = true := by kernel_rfl
theorem one5 : oneOk Tryz.prog 5 = true := by kernel_rfl
theorem co101 : callOk Tryz.prog 101 = true := by kernel_rfl
theorem fo66_0 : fieldOk Tryz.prog 66 0 0 = true := by kernel_rfl
theorem one4 : oneOk Tryz.prog 4 = true := by kernel_rfl
theorem fo66_1 : fieldOk Tryz.prog 66 1 1 = true := by kernel_rfl
theorem fo66_2 : fieldOk Tryz.prog 66 2 2 = true := by kernel_rfl
theorem fo64_2 : fieldOk Tryz.prog 64 2 3 = true := by kernel_rfl
theorem fo64_0 : fieldOk Tryz.prog 64 0 0 = true := by kernel_rfl
theorem isl67 : isSlice Tryz.prog 67 = true := by kernel_rfl
theorem slo67 : sliceOk Tryz.prog 67 66 34 = true := by kernel_rfl
theorem fo64_3 : fieldOk Tryz.prog 64 3 4 = true := by kernel_rfl
theorem one62 : oneOk Tryz.prog 62 = true := by kernel_rfl
theorem slo62 : sliceOk Tryz.prog 62 69 71 = true := by kernel_rfl
theorem fo69_0 : fieldOk Tryz.prog 69 0 0 = true := by kernel_rfl
theorem row66 : rowOk Tryz.prog 66 34 = true := by kernel_rfl
theorem zero66 : (Tryz.prog.info? 66).bind (fun i => i.zero.map Value.cells) = some (((.bool false) :: ((.int .i64 0) :: (Dig.zero.cells ++ []))) : List Value).toArray := by kernel_rfl
theorem sz66 : (Tryz.prog.info? 66).map (·.size) = some 34 := by kernel_rfl
theorem fo69_1 : fieldOk Tryz.prog 69 1 34 = true := by kernel_rfl
theorem one67 : oneOk Tryz.prog 67 = true := by kernel_rfl
theorem co73 : callOk Tryz.prog 73 = true := by kernel_rfl
theorem co77 : callOk Tryz.prog 77 = true := by kernel_rfl
theorem co69 : callOk Tryz.prog 69 = true := by kernel_rfl
theorem co76 : callOk Tryz.prog 76 = true := by kernel_rfl
theorem co45 : callOk Tryz.prog 45 = true := by kernel_rfl
theorem row69 : rowOk Tryz.prog 69 71 = true := by kernel_rfl
theorem zero69 : (Tryz.prog.info? 69).bind (fun i => i.zero.map Value.cells) = some (((.bool false) :: ((.int .i64 0) :: (Dig.zero.cells ++ ((.slice none 0 0) :: ((.slice none 0 0) :: ((.bool false) :: ((.int .i64 0) :: (Dig.zero.cells ++ ((.slice none 0 0) :: []))))))))) : List Value).toArray := by kernel_rfl
theorem sz69 : (Tryz.prog.info? 69).map (·.size) = some 71 := by kernel_rfl
theorem fo69_2 : fieldOk Tryz.prog 69 2 35 = true := by kernel_rfl
theorem co78 : callOk Tryz.prog 78 = true := by kernel_rfl
theorem fo69_3 : fieldOk Tryz.prog 69 3 36 = true := by kernel_rfl
theorem fo69_4 : fieldOk Tryz.prog 69 4 70 = true := by kernel_rfl
theorem co88 : callOk Tryz.prog 88 = true := by kernel_rfl
theorem rnode_ret (G0 : Gh) (w0 : World) (hw : Holds G0 w0) (n : Int) :
  RetS Tryz.prog 66 #[.int .i64 n] G0 w0 (.bool (nodeB n)) := by
 have hC := Cx.refl hw
 have hB : Bxs G0 w0 w0.heap.size [] := Bxs.nil _ _ _
 refine callsOf Tryz.func66 rfl _ Tryz.ntmps66 rfl _ (argsCons argsNil (t := 0) rfl) ?_; intro Q0 hQ
 refine wcSeq <| wcRegion <| A_ rfl ?_
 refine wlThen (wcSeq (wcRegion ?_))
 refine M_ rfl <| V_ (opGeq rfl rfl) <| M_ rfl ?_
 cases h1 : decide (1 ≤ n)
 ·
  refine wlOff rfl rfl rfl rfl <| wlOff rfl rfl rfl rfl <| V_ (opPickF rfl rfl) <| A_ rfl <| wlThen <| wcRet ?_
  exact r1_ hQ rfl rfl (endS hC hw (by simp [nodeB, *]))
 ·
  refine wlOn rfl rfl <| M_ rfl <| wlOn rfl rfl <| V_ (opLeq rfl rfl) <| V_ (opPickT rfl rfl) <| A_ rfl <| wlThen <| wcRet ?_
  exact r1_ hQ rfl rfl (endS hC hw (by simp [nodeB, *]))

theorem rin_ret (G0 : Gh) (w0 : World) (hw : Holds G0 w0) (vl : Value) (l : List Int) (hl : Sl G0 vl l) (t : Int) :
  RetS Tryz.prog 67 #[vl, .int .i64 t] G0 w0 (.bool (l.any (fun y => y == t))) := by
 have hC := Cx.refl hw
 have hB : Bxs G0 w0 w0.heap.size [] := Bxs.nil _ _ _
 obtain ⟨A1, cap2, rfl⟩ := hl.form
 refine callsOf Tryz.func67 rfl _ Tryz.ntmps67 rfl _ (argsCons (argsCons argsNil (t := 0) rfl) (t := 1) rfl) ?_; intro Q0 hQ
 refine wcSeq <| wcRegion <| A_ rfl ?_
 refine wlThen (wcSeq (wcSeq (wcRegion ?_)))
 refine A_ rfl <| wlThen <| wcBlock ?_
 refine WC.sub (wrInd (ι := Nat) (fun k => l.length - k) (fun k G w => Cx w0 G0 G w ∧ Bxs G w w0.heap.size [] ∧ Sl G (.slice A1 l.length cap2) l ∧ (l.drop k).any (fun y => y == t) = l.any (fun y => y == t)) (fun k => (((Env.nil.put 0 (.slice A1 l.length cap2)).put 1 (.int .i64 t)).put 5 (.int .i64 (((k : Nat) : Int))))) ?_ (0) _ _ ⟨hC, hB, hl, rfl⟩) (fun _ ha => (((ha.start.c ha 0 rfl).c ha 1 rfl).c ha 5 rfl))
 rintro k G w N0 IH0 ⟨hC, hB, hl, hI⟩
 refine wcSeq (wcSeq (wcRegion ?_))
 refine M_ rfl <| M_ rfl <| V_ (opLen rfl isl22) <| V_ (opLssN rfl rfl) <| wlThen ?_
 cases h3 : decide (k < l.length)
 ·
  refine wcCondF rfl <| wcExit <| wcOf <| wcSeq <| wcRegion <| A_ rfl <| wlThen <| wcRet ?_
  exact r1_ hQ rfl rfl (endS hC hw (by have e := hI; rw [List.drop_eq_nil_of_le (Nat.le_of_not_lt (of_decide_eq_false h3))] at e; simp [h3] at e; first | (simp [h3, e]; done) | (simp [h3, ← e]; done) | (simp [h3]; exact e)))
 ·
  refine wcCondT rfl <| wcSkip <| wcOf <| wcSeq ?_
  refine wcBlock (wcSeq (wcRegion ?_))
  refine M_ rfl <| M_ rfl ?_
  obtain ⟨x4, hx5⟩ : ∃ y_, l[k]? = some y_ := ⟨_, List.getElem?_eq_getElem (of_decide_eq_true h3)⟩
  obtain ⟨b6, o7, row8, hA11, hr9, hi10⟩ := hl.elem hx5; subst hA11
  obtain rfl := hi10
  refine V_ (opIndexAddr rfl rfl slo22 (of_decide_eq_true h3)) <| V_ (opLoadOne (v := (.int .i64 x4)) rfl (RowG.cell0 hC.holds hr9 rfl) one3) <| M_ rfl <| V_ (opEql rfl rfl) <| wlThen ?_
  cases h12 : x4 == t
  ·
   refine wcCondF rfl <| wcSkip <| wcOf <| wcRegion <| M_ rfl <| V_ (opIncr rfl rfl (incr_ok (of_decide_eq_true h3) hl.le)) <| A_ rfl <| wlRound ?_
   exact (IH0 (k + 1) _ _ ⟨hC, hB, hl, (by rw [← hI, drop_get hx5]; simp [h3, h12])⟩ (by have := of_decide_eq_true h3; simp; omega)).sub (fun _ ha => (((ha.start.c ha 0 rfl).c ha 1 rfl).c ha 5 rfl))
  ·
   refine wcCondT rfl <| wcSeq <| wcRegion <| A_ rfl <| wlThen <| wcRet ?_
   exact r1_ hQ rfl rfl (endS hC hw (by have e := hI; rw [drop_get hx5] at e; simp [h3, h12] at e; first | (simp [h3, h12, e]; done) | (simp [h3, h12, ← e]; done) | (simp [h3, h12]; exact e)))

theorem rcheck_ret (G0 : Gh) (w0 : World) (hw : Holds G0 w0) (csc : List Value) (c : Crew) (hc : Rp.Is G0 csc c) :
  RetS Tryz.prog 28 #[.agg csc.toArray] G0 w0 (.int .i64 (check c)) := by
 have hC := Cx.refl hw
 have hB : Bxs G0 w0 w0.heap.size [] := Bxs.nil _ _ _
 obtain ⟨v1, rfl, hs2⟩ := Crew.opIs hc
 obtain ⟨A3, cap4, rfl⟩ := hs2.form
 refine callsOf Tryz.func28 rfl _ Tryz.ntmps28 rfl _ (argsCons argsNil (t := 0) rfl) ?_; intro Q0 hQ
 refine wcSeq <| wcRegion ?_
 refine wlBox (cs := [(.int .i64 c.faults), (.slice A3 c.nodes.length cap4)]) hC hB rfl rfl rfl ?_; intro b5 w hk hC hB
 refine A_ rfl ?_
 refine wlThen (wcSeq (wcSeq (wcRegion ?_)))
 refine V_ (opFieldAddr rfl fo24_0) <| V_ (opLoadOne (v := (.int .i64 c.faults)) rfl (hB.cell (i := 0) rfl rfl) one3) <| V_ (opLss rfl rfl) <| M_ rfl ?_
 cases h6 : decide (c.faults < 0)
 ·
  refine wlOn rfl rfl <| V_ (opFieldAddr rfl fo24_0) <| wlOn rfl rfl <| V_ (opLoadOne (v := (.int .i64 c.faults)) rfl (hB.cell (i := 0) rfl rfl) one3) <| wlOn rfl rfl <| V_ (opGtr rfl rfl) <| V_ (opPickF rfl rfl) <| M_ rfl ?_
  cases h7 : decide (2 < c.faults)
  ·
   refine wlOn rfl rfl <| V_ (opFieldAddr rfl fo24_1) <| wlOn rfl rfl <| V_ (opLoadOne (v := (.slice A3 c.nodes.length cap4)) rfl (hB.cell (i := 0) rfl rfl) one22) <| wlOn rfl rfl <| V_ (opLen rfl isl22) <| wlOn rfl rfl <| V_ (opFieldAddr rfl fo24_0) <| wlOn rfl rfl <| V_ (opLoadOne (v := (.int .i64 c.faults)) rfl (hB.cell (i := 0) rfl rfl) one3) <| wlOn rfl rfl <| V_ (opMul rfl rfl) <| wlOn rfl rfl <| V_ (opAdd rfl rfl) <| wlOn rfl rfl <| V_ (opNeq rfl rfl) <| V_ (opPickF rfl rfl) <| wlThen ?_
   cases h8 : (((c.nodes.length : Nat) : Int)) != (IntKind.wrap .i64 (IntKind.wrap .i64 (3 * c.faults) + 1))
   ·
    refine wcCondF rfl <| wcSkip <| wcOf ?_
    refine wcSeq (wcSeq (wcRegion ?_))
    refine A_ rfl <| wlThen <| wcBlock ?_
    refine WC.sub (wrInd (ι := Nat) (fun k => c.nodes.length - k) (fun k G w => Cx w0 G0 G w ∧ Bxs G w w0.heap.size [(b5, 24, [(.int .i64 c.faults), (.slice A3 c.nodes.length cap4)])] ∧ Sl G (.slice A3 c.nodes.length cap4) c.nodes ∧ risesB (prevI c.nodes k) (c.nodes.drop k) = risesB 0 c.nodes) (fun k => ((Env.nil.put 1 (.pointer (some ⟨b5, 0, none⟩))).put 3 (.int .i64 (((k : Nat) : Int))))) ?_ (0) _ _ ⟨hC, hB, hs2, rfl⟩) (fun _ ha => ((ha.start.c ha 1 rfl).c ha 3 rfl))
    rintro k G w N0 IH0 ⟨hC, hB, hs2, hI⟩
    refine wcSeq (wcSeq (wcRegion ?_))
    refine M_ rfl <| V_ (opFieldAddr rfl fo24_1) <| V_ (opLoadOne (v := (.slice A3 c.nodes.length cap4)) rfl (hB.cell (i := 0) rfl rfl) one22) <| V_ (opLen rfl isl22) <| V_ (opLssN rfl rfl) <| wlThen ?_
    cases h9 : decide (k < c.nodes.length)
    ·
     refine wcCondF rfl <| wcExit <| wcOf <| wcSeq <| wcRegion <| A_ rfl <| wlThen <| wcRet ?_
     exact r1_ hQ rfl rfl (endS hC hw (by have e := hI; rw [List.drop_eq_nil_of_le (Nat.le_of_not_lt (of_decide_eq_false h9))] at e; simp [risesB, h6, h7, h8, h9] at e; first | (simp [check, h6, h7, h8, h9, e]; done) | (simp at e)))
    ·
     refine wcCondT rfl <| wcSkip <| wcOf <| wcSeq <| wcBlock <| wcSeq ?_
     refine wcDrawS 25 [0, 1, 0, 7, 15, 31, 63, 127, 255, 511, 1023, 2047, 4095, 2047, 16383, 32767, 2047, 67583, 2047, 264191, 985087, 2033663, 4194303, 8388607, 16777215] fmix (by kernel_rfl) (by kernel_rfl) rfl hC hB ?_; intro w hC hB
     refine D_ 0 rfl rfl (fun _ => (opFieldAddr rfl fo24_1)) <| E_ 1 rfl rfl (opLoadOne (v := (.slice A3 c.nodes.length cap4)) rfl (hB.cell (i := 0) rfl rfl) one22) <| D_ 2 rfl rfl (fun _ => opMove rfl) ?_
     obtain ⟨x10, hx11⟩ : ∃ y_, c.nodes[k]? = some y_ := ⟨_, List.getElem?_eq_getElem (of_decide_eq_true h9)⟩
     obtain ⟨b12, o13, row14, hA17, hr15, hi16⟩ := hs2.elem hx11; subst hA17
     obtain rfl := hi16
     refine D_ 3 rfl rfl (fun _ => (opIndexAddr rfl rfl slo22 (of_decide_eq_true h9))) <| E_ 4 rfl rfl (opLoadOne (v := (.int .i64 x10)) rfl (RowG.cell0 hC.holds hr15 rfl) one3) ?_
     refine wdAll [5] (by kernel_rfl) rfl ⟨wd1 rfl ?_, trivial⟩
     intro hGd
     refine wlCallS hC hB rfl co66 rfl rfl (rnode_ret _ _ hC.holds x10) ?_; intro w hk hC hB
     refine wdNext hGd rfl (kpDrop rfl (kpDrop rfl kpNil)) (Tk.nil _) ?_
     refine D_ 6 rfl rfl (fun _ => opNot rfl) <| D_ 7 rfl rfl (fun _ => opMove rfl) ?_
     cases h18 : (nodeB x10)
     ·
      refine O_ 8 rfl rfl rfl rfl rfl <| O_ 9 rfl rfl rfl rfl rfl <| O_ 10 rfl rfl rfl rfl rfl <| OU_ 11 rfl rfl rfl rfl <| OU_ 12 rfl rfl rfl rfl <| OU_ 13 rfl rfl rfl rfl <| OU_ 14 rfl rfl rfl rfl <| OU_ 15 rfl rfl rfl rfl <| OU_ 16 rfl rfl rfl rfl <| OU_ 17 rfl rfl rfl rfl <| OU_ 18 rfl rfl rfl rfl <| OU_ 19 rfl rfl rfl rfl <| OU_ 20 rfl rfl rfl rfl <| OU_ 21 rfl rfl rfl rfl <| OU_ 22 rfl rfl rfl rfl <| O_ 23 rfl rfl rfl rfl rfl <| D_ 24 rfl rfl (fun _ => opPickT rfl rfl) <| wdDone (by kernel_rfl) <| wcOf <| wcCondT rfl ?_
      refine wcSeq <| wcRegion <| A_ rfl <| wlThen <| wcRet ?_
      exact r1_ hQ rfl rfl (endS hC hw (by have e := hI; rw [drop_get hx11] at e; simp [risesB, h6, h7, h8, h9, h18] at e; first | (simp [check, h6, h7, h8, h9, h18, e]; done) | (simp at e)))
     ·
      refine DG_ 8 rfl rfl rfl rfl (fun _ => opMove rfl) <| DG_ 9 rfl rfl rfl rfl (fun _ => opGtr rfl rfl) <| DG_ 10 rfl rfl rfl rfl (fun _ => opMove rfl) ?_
      cases h19 : decide (0 < ((k : Nat) : Int))
      ·
       refine O_ 11 rfl rfl rfl rfl rfl <| O_ 12 rfl rfl rfl rfl rfl <| O_ 13 rfl rfl rfl rfl rfl <| O_ 14 rfl rfl rfl rfl rfl <| O_ 15 rfl rfl rfl rfl rfl <| O_ 16 rfl rfl rfl rfl rfl <| O_ 17 rfl rfl rfl rfl rfl <| O_ 18 rfl rfl rfl rfl rfl <| O_ 19 rfl rfl rfl rfl rfl <| O_ 20 rfl rfl rfl rfl rfl <| O_ 21 rfl rfl rfl rfl rfl <| O_ 22 rfl rfl rfl rfl rfl <| DG_ 23 rfl rfl rfl rfl (fun _ => opPickF rfl rfl) <| D_ 24 rfl rfl (fun _ => opPickF rfl rfl) <| wdDone (by kernel_rfl) <| wcOf <| wcCondF rfl <| wcSkip <| wcOf <| wcRegion ?_
       refine M_ rfl <| V_ (opIncr rfl rfl (incr_ok (of_decide_eq_true h9) hs2.le)) <| A_ rfl <| wlRound ?_
       exact (IH0 (k + 1) _ _ ⟨hC, hB, hs2, (by have hk0 : k = 0 := (by have := of_decide_eq_false h19; omega); subst hk0; rw [← hI, drop_get hx11]; rw [prevI_succ hx11]; simp only [risesB, h6, h7, h8, h9, h18, h19]; rw [prevI_0, nodeB_pos (by simpa using h18)]; simp)⟩ (by have := of_decide_eq_true h9; simp; omega)).sub (fun _ ha => ((ha.start.c ha 1 rfl).c ha 3 rfl))
      ·
       refine DG_ 11 rfl rfl rfl rfl (fun _ => (opFieldAddr rfl fo24_1)) <| EG_ 12 rfl rfl rfl rfl (opLoadOne (v := (.slice (some ⟨b12, o13, none⟩) c.nodes.length cap4)) rfl (hB.cell (i := 0) rfl rfl) one22) <| DG_ 13 rfl rfl rfl rfl (fun _ => opMove rfl) <| DG_ 14 rfl rfl rfl rfl (fun _ => (opIndexAddr rfl rfl slo22 (of_decide_eq_true h9))) <| EG_ 15 rfl rfl rfl rfl (opLoadOne (v := (.int .i64 x10)) rfl (RowG.cell0 hC.holds hr15 rfl) one3) <| DG_ 16 rfl rfl rfl rfl (fun _ => (opFieldAddr rfl fo24_1)) <| EG_ 17 rfl rfl rfl rfl (opLoadOne (v := (.slice (some ⟨b12, o13, none⟩) c.nodes.length cap4)) rfl (hB.cell (i := 0) rfl rfl) one22) <| DG_ 18 rfl rfl rfl rfl (fun _ => opMove rfl) <| DG_ 19 rfl rfl rfl rfl (fun _ => (opDecr rfl rfl (Int.ofNat_lt.1 (of_decide_eq_true h19)) (incr_ok (of_decide_eq_true h9) hs2.le))) ?_
       obtain ⟨x20, hx21⟩ : ∃ y_, c.nodes[(k - 1)]? = some y_ := ⟨_, List.getElem?_eq_getElem (by have := of_decide_eq_true h9; omega)⟩
       obtain ⟨row24, hr25, hi26⟩ := Sl.elem' hs2 hx21
       obtain rfl := hi26
       refine DG_ 20 rfl rfl rfl rfl (fun _ => (opIndexAddr rfl rfl slo22 (by have := of_decide_eq_true h9; omega))) <| EG_ 21 rfl rfl rfl rfl (opLoadOne (v := (.int .i64 x20)) rfl (RowG.cell0 hC.holds hr25 rfl) one3) <| DG_ 22 rfl rfl rfl rfl (fun _ => opLeq rfl rfl) <| DG_ 23 rfl rfl rfl rfl (fun _ => opPickT rfl rfl) <| D_ 24 rfl rfl (fun _ => opPickF rfl rfl) <| wdDone (by kernel_rfl) <| wcOf ?_
       cases h28 : decide (x10 ≤ x20)
       ·
        refine wcCondF rfl <| wcSkip <| wcOf <| wcRegion <| M_ rfl <| V_ (opIncr rfl rfl (incr_ok (of_decide_eq_true h9) hs2.le)) <| A_ rfl <| wlRound ?_
        exact (IH0 (k + 1) _ _ ⟨hC, hB, hs2, (by rw [← hI, drop_get hx11]; simp [risesB, prevI_succ hx11, prevI_of (Int.ofNat_lt.1 (of_decide_eq_true h19)) hx21, h6, h7, h8, h9, h18, h19, h28])⟩ (by have := of_decide_eq_true h9; have := of_decide_eq_true h19; simp; omega)).sub (fun _ ha => ((ha.start.c ha 1 rfl).c ha 3 rfl))
       ·
        refine wcCondT rfl <| wcSeq <| wcRegion <| A_ rfl <| wlThen <| wcRet ?_
        exact r1_ hQ rfl rfl (endS hC hw (by have e := hI; rw [drop_get hx11] at e; simp [risesB, h6, h7, h8, h9, h18, h19, h28] at e; first | (simp [check, h6, h7, h8, h9, h18, h19, h28, e]; done) | (have e4 := prevI_of (Int.ofNat_lt.1 (of_decide_eq_true h19)) hx21; simp [e4, h6, h7, h8, h9, h18, h19, h28] at e; simp [check, h6, h7, h8, h9, h18, h19, h28, e])))
   ·
    refine wcCondT rfl <| wcSeq <| wcRegion <| A_ rfl <| wlThen <| wcRet ?_
    exact r1_ hQ rfl rfl (endS hC hw (by simp [check, h6, h7, h8]))
  ·
   refine wlOff rfl rfl rfl rfl <| wlOff rfl rfl rfl rfl <| wlOff rfl rfl rfl rfl <| wlOff rfl rfl rfl rfl <| wlOff rfl rfl rfl rfl <| wlOff rfl rfl rfl rfl <| wlOff rfl rfl rfl rfl <| wlOff rfl rfl rfl rfl <| V_ (opPickT rfl rfl) <| wlThen <| wcCondT rfl <| wcSeq <| wcRegion <| A_ rfl <| wlThen <| wcRet ?_
   exact r1_ hQ rfl rfl (endS hC hw (by simp [check, h6, h7]))
 ·
  refine wlOff rfl rfl rfl rfl <| wlOff rfl rfl rfl rfl <| wlOff rfl rfl rfl rfl <| V_ (opPickT rfl rfl) <| M_ rfl <| wlOff rfl rfl rfl rfl <| wlOff rfl rfl rfl rfl <| wlOff rfl rfl rfl rfl <| wlOff rfl rfl rfl rfl <| wlOff rfl rfl rfl rfl <| wlOff rfl rfl rfl rfl <| wlOff rfl rfl rfl rfl <| wlOff rfl rfl rfl rfl <| V_ (opPickT rfl rfl) <| wlThen <| wcCondT rfl <| wcSeq <| wcRegion <| A_ rfl <| wlThen <| wcRet ?_
  exact r1_ hQ rfl rfl (endS hC hw (by simp [check, h6]))

theorem rhas_ret (G0 : Gh) (w0 : World) (hw : Holds G0 w0) (csc : List Value) (c : Crew) (hc : Rp.Is G0 csc c) (n : Int) :
  RetS Tryz.prog 29 #[.agg csc.toArray, .int .i64 n] G0 w0 (.bool (rhasB c n)) := by
 have hC := Cx.refl hw
 have hB : Bxs G0 w0 w0.heap.size [] := Bxs.nil _ _ _
 obtain ⟨v1, rfl, hs2⟩ := Crew.opIs hc
 obtain ⟨A3, cap4, rfl⟩ := hs2.form
 refine callsOf Tryz.func29 rfl _ Tryz.ntmps29 rfl _ (argsCons (argsCons argsNil (t := 0) rfl) (t := 1) rfl) ?_; intro Q0 hQ
 refine wcSeq <| wcRegion ?_
 refine wlBox (cs := [(.int .i64 c.faults), (.slice A3 c.nodes.length cap4)]) hC hB rfl rfl rfl ?_; intro b5 w hk hC hB
 refine A_ rfl ?_
 refine wlThen (wcSeq (wcRegion ?_))
 refine V_ (opLoadRow (cs := [(.int .i64 c.faults), (.slice A3 c.nodes.length cap4)]) rfl (hB.range (i := 0) (m := 2) rfl rfl) row24 rfl) ?_
 refine wlCallS hC hB rfl co28 rfl rfl (rcheck_ret _ _ hC.holds _ c (Crew.mkIs (x := c) hs2)) ?_; intro w hk hC hB
 refine V_ (opEql rfl rfl) <| M_ rfl ?_
 cases h6 : ((check c)) == 0
 ·
  refine wlOff rfl rfl rfl rfl <| wlOff rfl rfl rfl rfl <| wlOff rfl rfl rfl rfl <| wlOff rfl rfl rfl rfl <| V_ (opPickF rfl rfl) <| A_ rfl <| wlThen <| wcRet ?_
  exact r1_ hQ rfl rfl (endS hC hw (by simp [rhasB, h6]))
 ·
  refine wlOn rfl rfl <| V_ (opFieldAddr rfl fo24_1) <| wlOn rfl rfl <| V_ (opLoadOne (v := (.slice A3 c.nodes.length cap4)) rfl (hB.cell (i := 0) rfl rfl) one22) <| wlOn rfl rfl <| M_ rfl <| wlOn rfl rfl ?_
  refine wlCallS hC hB rfl co67 rfl rfl (rin_ret _ _ hC.holds _ c.nodes hs2 n) ?_; intro w hk hC hB
  refine V_ (opPickT rfl rfl) <| A_ rfl <| wlThen <| wcRet ?_
  exact r1_ hQ rfl rfl (endS hC hw (by simp [rhasB, h6]))

theorem rmost_ret (G0 : Gh) (w0 : World) (hw : Holds G0 w0) (csc : List Value) (c : Crew) (hc : Rp.Is G0 csc c) :
  RetS Tryz.prog 78 #[.agg csc.toArray] G0 w0 (.int .i64 (most c)) := by
 have hC := Cx.refl hw
 have hB : Bxs G0 w0 w0.heap.size [] := Bxs.nil _ _ _
 obtain ⟨v1, rfl, hs2⟩ := Crew.opIs hc
 obtain ⟨A3, cap4, rfl⟩ := hs2.form
 refine callsOf Tryz.func78 rfl _ Tryz.ntmps78 rfl _ (argsCons argsNil (t := 0) rfl) ?_; intro Q0 hQ
 refine wcSeq <| wcRegion ?_
 refine wlBox (cs := [(.int .i64 c.faults), (.slice A3 c.nodes.length cap4)]) hC hB rfl rfl rfl ?_; intro b5 w hk hC hB
 refine A_ rfl ?_
 refine wlThen (wcSeq (wcSeq (wcRegion ?_)))
 refine V_ (opLoadRow (cs := [(.int .i64 c.faults), (.slice A3 c.nodes.length cap4)]) rfl (hB.range (i := 0) (m := 2) rfl rfl) row24 rfl) ?_
 refine wlCallS hC hB rfl co28 rfl rfl (rcheck_ret _ _ hC.holds _ c (Crew.mkIs (x := c) hs2)) ?_; intro w hk hC hB
 refine V_ (opNeq rfl rfl) <| wlThen ?_
 cases h6 : ((check c)) != 0
 ·
  refine wcCondF rfl <| wcSkip <| wcOf <| wcSeq <| wcRegion <| V_ (opFieldAddr rfl fo24_0) <| V_ (opLoadOne (v := (.int .i64 c.faults)) rfl (hB.cell (i := 0) rfl rfl) one3) <| V_ (opMul rfl rfl) <| V_ (opAdd rfl rfl) <| A_ rfl <| wlThen <| wcRet ?_
  exact r1_ hQ rfl rfl (endS hC hw (by simp [most, h6]))
 ·
  refine wcCondT rfl <| wcSeq <| wcRegion <| A_ rfl <| wlThen <| wcRet ?_
  exact r1_ hQ rfl rfl (endS hC hw (by simp [most, h6]))

theorem rleader_ret (G0 : Gh) (w0 : World) (hw : Holds G0 w0) (csc : List Value) (c : Crew) (hc : Rp.Is G0 csc c) (v : Int) :
  RetS Tryz.prog 73 #[.agg csc.toArray, .int .i64 v] G0 w0 (.int .i64 ((leaderI c v))) := by
 have hC := Cx.refl hw
 have hB : Bxs G0 w0 w0.heap.size [] := Bxs.nil _ _ _
 obtain ⟨v1, rfl, hs2⟩ := Crew.opIs hc
 obtain ⟨A3, cap4, rfl⟩ := hs2.form
 refine callsOf Tryz.func73 rfl _ Tryz.ntmps73 rfl _ (argsCons (argsCons argsNil (t := 0) rfl) (t := 1) rfl) ?_; intro Q0 hQ
 refine wcSeq <| wcRegion ?_
 refine wlBox (cs := [(.int .i64 c.faults), (.slice A3 c.nodes.length cap4)]) hC hB rfl rfl rfl ?_; intro b5 w hk hC hB
 refine A_ rfl ?_
 refine wlThen (wcSeq (wcSeq (wcRegion ?_)))
 refine V_ (opLoadRow (cs := [(.int .i64 c.faults), (.slice A3 c.nodes.length cap4)]) rfl (hB.range (i := 0) (m := 2) rfl rfl) row24 rfl) ?_
 refine wlCallS hC hB rfl co28 rfl rfl (rcheck_ret _ _ hC.holds _ c (Crew.mkIs (x := c) hs2)) ?_; intro w hk hC hB
 refine V_ (opNeq rfl rfl) <| M_ rfl ?_
 cases h6 : ((check c)) != 0
 ·
  refine wlOn rfl rfl <| M_ rfl <| wlOn rfl rfl <| V_ (opLss rfl rfl) <| V_ (opPickF rfl rfl) <| wlThen ?_
  cases h7 : decide (v < 0)
  ·
   refine wcCondF rfl <| wcSkip <| wcOf <| wcSeq ?_
   refine wcDrawS 10 [0, 1, 0, 0, 8, 24, 60, 127, 255, 511] fmix (by kernel_rfl) (by kernel_rfl) rfl hC hB ?_; intro w hC hB
   refine D_ 0 rfl rfl (fun _ => (opFieldAddr rfl fo24_1)) <| E_ 1 rfl rfl (opLoadOne (v := (.slice A3 c.nodes.length cap4)) rfl (hB.cell (i := 0) rfl rfl) one22) <| D_ 2 rfl rfl (fun _ => opMove rfl) <| D_ 3 rfl rfl (fun _ => (opFieldAddr rfl fo24_1)) <| E_ 4 rfl rfl (opLoadOne (v := (.slice A3 c.nodes.length cap4)) rfl (hB.cell (i := 0) rfl rfl) one22) <| D_ 5 rfl rfl (fun _ => (opLen rfl isl22)) <| D_ 6 rfl rfl (fun _ => (OpVal.cast (v' := .int .i64 (((v.toNat % c.nodes.length) : Nat) : Int)) (opRem rfl rfl (by have q := check_pos h6; omega)) (congrArg (Value.int .i64) (tmod_len (check_pos h6) h7)))) ?_
   obtain ⟨x8, hx9⟩ : ∃ y_, c.nodes[(v.toNat % c.nodes.length)]? = some y_ := ⟨_, List.getElem?_eq_getElem (Nat.mod_lt _ (check_pos h6))⟩
   obtain ⟨b10, o11, row12, hA15, hr13, hi14⟩ := hs2.elem hx9; subst hA15
   obtain rfl := hi14
   refine D_ 7 rfl rfl (fun _ => (opIndexAddr rfl rfl slo22 (Nat.mod_lt _ (check_pos h6)))) <| E_ 8 rfl rfl (opLoadOne (v := (.int .i64 x8)) rfl (RowG.cell0 hC.holds hr13 rfl) one3) <| D_ 9 rfl rfl (fun _ => opAssign rfl) <| wdDone (by kernel_rfl) <| wcOf <| wcRet ?_
   exact r1_ hQ rfl rfl (endS hC hw (by simp only [leaderI, h6, h7, cond_true, cond_false, Bool.not_true, Bool.not_false, Bool.or_true, Bool.true_or, Bool.or_false, Bool.false_or]; rw [List.getD_eq_getElem?_getD, hx9]; rfl))
  ·
   refine wcCondT rfl <| wcSeq <| wcRegion <| A_ rfl <| wlThen <| wcRet ?_
   exact r1_ hQ rfl rfl (endS hC hw (by simp only [leaderI, h6, h7, cond_true, cond_false, Bool.not_true, Bool.not_false, Bool.or_true, Bool.true_or, Bool.or_false, Bool.false_or]))
 ·
  refine wlOff rfl rfl rfl rfl <| wlOff rfl rfl rfl rfl <| V_ (opPickT rfl rfl) <| wlThen <| wcCondT rfl <| wcSeq <| wcRegion <| A_ rfl <| wlThen <| wcRet ?_
  exact r1_ hQ rfl rfl (endS hC hw (by simp only [leaderI, h6, cond_true, cond_false, Bool.not_true, Bool.not_false, Bool.or_true, Bool.true_or, Bool.or_false, Bool.false_or]))

theorem rviewMay_ret (G0 : Gh) (w0 : World) (hw : Holds G0 w0) (v : Int) :
  RetS Tryz.prog 68 #[.int .i64 v] G0 w0 (.bool (viewB v)) := by
 have hC := Cx.refl hw
 have hB : Bxs G0 w0 w0.heap.size [] := Bxs.nil _ _ _
 refine callsOf Tryz.func68 rfl _ Tryz.ntmps68 rfl _ (argsCons argsNil (t := 0) rfl) ?_; intro Q0 hQ
 refine wcSeq <| wcRegion <| A_ rfl ?_
 refine wlThen (wcSeq (wcRegion ?_))
 refine M_ rfl <| V_ (opGeq rfl rfl) <| M_ rfl ?_
 cases h1 : decide (0 ≤ v)
 ·
  refine wlOff rfl rfl rfl rfl <| wlOff rfl rfl rfl rfl <| V_ (opPickF rfl rfl) <| A_ rfl <| wlThen <| wcRet ?_
  exact r1_ hQ rfl rfl (endS hC hw (by simp [viewB, h1]))
 ·
  refine wlOn rfl rfl <| M_ rfl <| wlOn rfl rfl <| V_ (opLeq rfl rfl) <| V_ (opPickT rfl rfl) <| A_ rfl <| wlThen <| wcRet ?_
  exact r1_ hQ rfl rfl (endS hC hw (by simp [viewB, h1]))

theorem rlowMay_ret (G0 : Gh) (w0 : World) (hw : Holds G0 w0) (v : Int) :
  RetS Tryz.prog 30 #[.int .i64 v] G0 w0 (.bool (lowB v)) := by
 have hC := Cx.refl hw
 have hB : Bxs G0 w0 w0.heap.size [] := Bxs.nil _ _ _
 refine callsOf Tryz.func30 rfl _ Tryz.ntmps30 rfl _ (argsCons argsNil (t := 0) rfl) ?_; intro Q0 hQ
 refine wcSeq <| wcRegion <| A_ rfl ?_
 refine wlThen (wcSeq (wcRegion ?_))
 refine M_ rfl <| V_ (opGeq rfl rfl) <| M_ rfl ?_
 cases h1 : decide (0 ≤ v)
 ·
  refine wlOff rfl rfl rfl rfl <| wlOff rfl rfl rfl rfl <| V_ (opPickF rfl rfl) <| A_ rfl <| wlThen <| wcRet ?_
  exact r1_ hQ rfl rfl (endS hC hw (by simp [lowB, h1]))
 ·
  refine wlOn rfl rfl <| M_ rfl <| wlOn rfl rfl <| V_ (opLeq rfl rfl) <| V_ (opPickT rfl rfl) <| A_ rfl <| wlThen <| wcRet ?_
  exact r1_ hQ rfl rfl (endS hC hw (by simp [lowB, h1]))

theorem rless_ret (G0 : Gh) (w0 : World) (hw : Holds G0 w0) (a : Dig) (b : Dig) :
  RetS Tryz.prog 101 #[.agg a.cells.toArray, .agg b.cells.toArray] G0 w0 (.bool (lessB a.l b.l)) := by
 have hC := Cx.refl hw
 have hB : Bxs G0 w0 w0.heap.size [] := Bxs.nil _ _ _
 refine callsOf Tryz.func101 rfl _ Tryz.ntmps101 rfl _ (argsCons (argsCons argsNil (t := 0) rfl) (t := 1) rfl) ?_; intro Q0 hQ
 refine wcSeq <| wcRegion ?_
 refine wlBox (cs := a.cells) hC hB rfl rfl rfl ?_; intro b1 w hk hC hB
 refine wlBox (cs := b.cells) hC hB rfl rfl rfl ?_; intro b2 w hk hC hB
 refine A_ rfl ?_
 refine wlThen (wcSeq (wcSeq (wcRegion ?_)))
 refine A_ rfl <| wlThen <| wcBlock ?_
 refine WC.sub (wrInd (ι := Nat) (fun k => 32 - k) (fun k G w => Cx w0 G0 G w ∧ Bxs G w w0.heap.size [(b2, 37, b.cells), (b1, 37, a.cells)] ∧ lessB (a.l.drop k) (b.l.drop k) = lessB a.l b.l) (fun k => (((Env.nil.put 2 (.pointer (some ⟨b1, 0, none⟩))).put 3 (.pointer (some ⟨b2, 0, none⟩))).put 5 (.int .i64 (((k : Nat) : Int))))) ?_ (0) _ _ ⟨hC, hB, rfl⟩) (fun _ ha => (((ha.start.c ha 2 rfl).c ha 3 rfl).c ha 5 rfl))
 rintro k G w N0 IH0 ⟨hC, hB, hI⟩
 refine wcSeq (wcSeq (wcRegion ?_))
 refine M_ rfl <| V_ (opLssN (b := 32) rfl rfl) <| wlThen ?_
 cases h3 : decide (k < 32)
 ·
  refine wcCondF rfl <| wcExit <| wcOf <| wcSeq <| wcRegion <| A_ rfl <| wlThen <| wcRet ?_
  exact r1_ hQ rfl rfl (endS hC hw (by have hk32 := of_decide_eq_false h3; have e := hI; rw [List.drop_eq_nil_of_le (by rw [a.h]; omega)] at e; simp [lessB] at e; simp [← e]))
 ·
  refine wcCondT rfl <| wcSkip <| wcOf <| wcSeq <| wcBlock <| wcSeq ?_
  refine wcDrawS 7 [0, 1, 3, 0, 8, 24, 63] fmix (by kernel_rfl) (by kernel_rfl) rfl hC hB ?_; intro w hC hB
  refine D_ 0 rfl rfl (fun _ => opMove rfl) <| D_ 1 rfl rfl (fun _ => (opIndexArr rfl rfl ar37 (of_decide_eq_true h3))) <| E_ 2 rfl rfl (opLoadOne (v := (.int .u8 (((a.l.getD k 0).toNat : Int)))) rfl (hB.cell (i := 1) rfl (Dig.cellAt a (of_decide_eq_true h3))) one5) <| D_ 3 rfl rfl (fun _ => opMove rfl) <| D_ 4 rfl rfl (fun _ => (opIndexArr rfl rfl ar37 (of_decide_eq_true h3))) <| E_ 5 rfl rfl (opLoadOne (v := (.int .u8 (((b.l.getD k 0).toNat : Int)))) rfl (hB.cell (i := 0) rfl (Dig.cellAt b (of_decide_eq_true h3))) one5) <| D_ 6 rfl rfl (fun _ => opNeq rfl rfl) <| wdDone (by kernel_rfl) <| wcOf ?_
  cases h4 : (((a.l.getD k 0).toNat : Int)) != (((b.l.getD k 0).toNat : Int))
  ·
   refine wcCondF rfl <| wcSkip <| wcOf <| wcRegion <| M_ rfl <| V_ (opIncr rfl rfl (by have := of_decide_eq_true h3; omega)) <| A_ rfl <| wlRound ?_
   exact (IH0 (k + 1) _ _ ⟨hC, hB, (by have hk32 := of_decide_eq_true h3; rw [← hI, drop_getD (d := 0) a.l k (by rw [a.h]; omega), drop_getD (d := 0) b.l k (by rw [b.h]; omega)]; simp only [lessB, h3, h4, cond_true, cond_false])⟩ (by have := of_decide_eq_true h3; show 32 - (k + 1) < 32 - k; omega)).sub (fun _ ha => (((ha.start.c ha 2 rfl).c ha 3 rfl).c ha 5 rfl))
  ·
   refine wcCondT rfl <| wcSeq ?_
   refine wcDrawS 8 [0, 1, 3, 0, 8, 24, 63, 127] fmix (by kernel_rfl) (by kernel_rfl) rfl hC hB ?_; intro w hC hB
   refine D_ 0 rfl rfl (fun _ => opMove rfl) <| D_ 1 rfl rfl (fun _ => (opIndexArr rfl rfl ar37 (of_decide_eq_true h3))) <| E_ 2 rfl rfl (opLoadOne (v := (.int .u8 (((a.l.getD k 0).toNat : Int)))) rfl (hB.cell (i := 1) rfl (Dig.cellAt a (of_decide_eq_true h3))) one5) <| D_ 3 rfl rfl (fun _ => opMove rfl) <| D_ 4 rfl rfl (fun _ => (opIndexArr rfl rfl ar37 (of_decide_eq_true h3))) <| E_ 5 rfl rfl (opLoadOne (v := (.int .u8 (((b.l.getD k 0).toNat : Int)))) rfl (hB.cell (i := 0) rfl (Dig.cellAt b (of_decide_eq_true h3))) one5) <| D_ 6 rfl rfl (fun _ => opLss rfl rfl) <| D_ 7 rfl rfl (fun _ => opAssign rfl) <| wdDone (by kernel_rfl) <| wcOf <| wcRet ?_
   exact r1_ hQ rfl rfl (endS hC hw (by have hk32 := of_decide_eq_true h3; have e := hI; rw [drop_getD (d := 0) a.l k (by rw [a.h]; omega), drop_getD (d := 0) b.l k (by rw [b.h]; omega)] at e; simp only [lessB, h3, h4, cond_true, cond_false] at e; rw [← e]))

theorem ahead_ret (G0 : Gh) (w0 : World) (hw : Holds G0 w0) (a : Stand) (b : Stand) :
  RetS Tryz.prog 88 #[.agg a.cells.toArray, .agg b.cells.toArray] G0 w0 (.bool ((aheadB a b))) := by
 have hC := Cx.refl hw
 have hB : Bxs G0 w0 w0.heap.size [] := Bxs.nil _ _ _
 refine callsOf Tryz.func88 rfl _ Tryz.ntmps88 rfl _ (argsCons (argsCons argsNil (t := 0) rfl) (t := 1) rfl) ?_; intro Q0 hQ
 refine wcSeq <| wcRegion ?_
 refine wlBox (cs := a.cells) hC hB rfl rfl rfl ?_; intro b1 w hk hC hB
 refine wlBox (cs := b.cells) hC hB rfl rfl rfl ?_; intro b2 w hk hC hB
 refine A_ rfl ?_
 refine wlThen (wcSeq (wcRegion ?_))
 refine V_ (opFieldAddr rfl fo44_2) <| V_ (opLoadOne (v := (.int .i64 a.view)) rfl (hB.cell (i := 1) rfl (by simp [cl_])) one3) <| V_ (opFieldAddr rfl fo44_2) <| V_ (opLoadOne (v := (.int .i64 b.view)) rfl (hB.cell (i := 0) rfl (by simp [cl_])) one3) <| V_ (opLss rfl rfl) <| M_ rfl ?_
 cases h3 : decide (a.view < b.view)
 ·
  refine wlOn rfl rfl <| V_ (opFieldAddr rfl fo44_2) <| wlOn rfl rfl <| V_ (opLoadOne (v := (.int .i64 a.view)) rfl (hB.cell (i := 1) rfl (by simp [cl_])) one3) <| wlOn rfl rfl <| V_ (opFieldAddr rfl fo44_2) <| wlOn rfl rfl <| V_ (opLoadOne (v := (.int .i64 b.view)) rfl (hB.cell (i := 0) rfl (by simp [cl_])) one3) <| wlOn rfl rfl <| V_ (opEql rfl rfl) <| wlOn rfl rfl <| M_ rfl ?_
  cases h4 : a.view == b.view
  ·
   refine wlOff rfl rfl rfl rfl <| wlOff rfl rfl rfl rfl <| wlOff rfl rfl rfl rfl <| wlOff rfl rfl rfl rfl <| wlOff rfl rfl rfl rfl <| wlOn rfl rfl <| V_ (opPickF rfl rfl) <| V_ (opPickF rfl rfl) <| A_ rfl <| wlThen <| wcRet ?_
   exact r1_ hQ rfl rfl (endS hC hw (by simp only [aheadB, h3, h4, ta_]))
  ·
   refine wlOn rfl rfl <| V_ (opFieldAddr rfl fo44_1) <| wlOn rfl rfl <| V_ (opLoadRow (cs := a.dig.cells) rfl (hB.range (i := 1) (m := 32) rfl (by simp [cl_])) row37 (by simp [cl_])) <| wlOn rfl rfl <| V_ (opFieldAddr rfl fo44_1) <| wlOn rfl rfl <| V_ (opLoadRow (cs := b.dig.cells) rfl (hB.range (i := 0) (m := 32) rfl (by simp [cl_])) row37 (by simp [cl_])) <| wlOn rfl rfl ?_
   refine wlCallS hC hB rfl co101 rfl rfl (rless_ret _ _ hC.holds a.dig b.dig) ?_; intro w hk hC hB
   refine wlOn rfl rfl <| V_ (opPickT rfl rfl) <| V_ (opPickF rfl rfl) <| A_ rfl <| wlThen <| wcRet ?_
   exact r1_ hQ rfl rfl (endS hC hw (by simp only [aheadB, h3, h4, ta_]))
 ·
  refine wlOff rfl rfl rfl rfl <| wlOff rfl rfl rfl rfl <| wlOff rfl rfl rfl rfl <| wlOff rfl rfl rfl rfl <| wlOff rfl rfl rfl rfl <| wlOff rfl rfl rfl rfl <| wlOffU rfl rfl rfl <| wlOffU rfl rfl rfl <| wlOffU rfl rfl rfl <| wlOffU rfl rfl rfl <| wlOffU rfl rfl rfl <| wlOff rfl rfl rfl rfl <| V_ (opPickT rfl rfl) <| A_ rfl <| wlThen <| wcRet ?_
  exact r1_ hQ rfl rfl (endS hC hw (by simp only [aheadB, h3, ta_]))

theorem said_ret (G0 : Gh) (w0 : World) (hw : Holds G0 w0) (x : RVt) (v : Int) (d : Dig) :
  RetS Tryz.prog 74 #[.agg x.cells.toArray, .int .i64 v, .agg d.cells.toArray] G0 w0 (.int .i64 ((saidI x v d))) := by
 have hC := Cx.refl hw
 have hB : Bxs G0 w0 w0.heap.size [] := Bxs.nil _ _ _
 refine callsOf Tryz.func74 rfl _ Tryz.ntmps74 rfl _ (argsCons (argsCons (argsCons argsNil (t := 0) rfl) (t := 1) rfl) (t := 2) rfl) ?_; intro Q0 hQ
 refine wcSeq <| wcRegion ?_
 refine wlBox (cs := x.cells) hC hB rfl rfl rfl ?_; intro b1 w hk hC hB
 refine wlBox (cs := d.cells) hC hB rfl rfl rfl ?_; intro b2 w hk hC hB
 refine A_ rfl ?_
 refine wlThen (wcSeq (wcSeq (wcRegion ?_)))
 refine V_ (opFieldAddr rfl fo66_0) <| V_ (opLoadOne (v := (.bool x.has)) rfl (hB.cell (i := 1) rfl (by simp [cl_])) one4) <| M_ rfl ?_
 cases h3 : x.has
 ·
  refine wlOff rfl rfl rfl rfl <| wlOff rfl rfl rfl rfl <| wlOff rfl rfl rfl rfl <| wlOff rfl rfl rfl rfl <| V_ (opPickF rfl rfl) <| wlThen <| wcCondF rfl <| wcSkip <| wcOf ?_
  refine wcSeq (wcSeq (wcRegion ?_))
  refine V_ (opFieldAddr rfl fo66_0) <| V_ (OpVal.cast (opLoadOne (v := (.bool x.has)) rfl (hB.cell (i := 1) rfl (by simp [cl_])) one4) (congrArg Value.bool h3)) <| M_ rfl <| wlOff rfl rfl rfl rfl <| wlOff rfl rfl rfl rfl <| wlOff rfl rfl rfl rfl <| wlOff rfl rfl rfl rfl <| V_ (opPickF rfl rfl) <| M_ rfl <| wlOff rfl rfl rfl rfl <| wlOff rfl rfl rfl rfl <| wlOff rfl rfl rfl rfl <| wlOff rfl rfl rfl rfl <| V_ (opPickF rfl rfl) <| wlThen <| wcCondF rfl <| wcSkip <| wcOf <| wcSeq <| wcRegion <| A_ rfl ?_
  refine wlThen <| wcRet ?_
  exact r1_ hQ rfl rfl (endS hC hw (by simp only [saidI, h3, ta_]))
 ·
  refine wlOn rfl rfl <| V_ (opFieldAddr rfl fo66_1) <| wlOn rfl rfl <| V_ (opLoadOne (v := (.int .i64 x.view)) rfl (hB.cell (i := 1) rfl (by simp [cl_])) one3) <| wlOn rfl rfl <| M_ rfl <| wlOn rfl rfl <| V_ (opGtr rfl rfl) <| V_ (opPickT rfl rfl) <| wlThen ?_
  cases h4 : decide (v < x.view)
  ·
   refine wcCondF rfl <| wcSkip <| wcOf ?_
   refine wcSeq (wcSeq (wcRegion ?_))
   refine V_ (opFieldAddr rfl fo66_0) <| V_ (OpVal.cast (opLoadOne (v := (.bool x.has)) rfl (hB.cell (i := 1) rfl (by simp [cl_])) one4) (congrArg Value.bool h3)) <| M_ rfl <| wlOn rfl rfl <| V_ (opFieldAddr rfl fo66_1) <| wlOn rfl rfl <| V_ (opLoadOne (v := (.int .i64 x.view)) rfl (hB.cell (i := 1) rfl (by simp [cl_])) one3) <| wlOn rfl rfl <| M_ rfl <| wlOn rfl rfl <| V_ (opEql rfl rfl) <| V_ (opPickT rfl rfl) <| M_ rfl ?_
   cases h5 : x.view == v
   ·
    refine wlOff rfl rfl rfl rfl <| wlOff rfl rfl rfl rfl <| wlOff rfl rfl rfl rfl <| wlOff rfl rfl rfl rfl <| V_ (opPickF rfl rfl) <| wlThen <| wcCondF rfl <| wcSkip <| wcOf <| wcSeq <| wcRegion <| A_ rfl <| wlThen <| wcRet ?_
    exact r1_ hQ rfl rfl (endS hC hw (by simp only [saidI, h3, h4, h5, ta_]))
   ·
    refine wlOn rfl rfl <| V_ (opFieldAddr rfl fo66_2) <| wlOn rfl rfl <| V_ (opLoadRow (cs := x.dig.cells) rfl (hB.range (i := 1) (m := 32) rfl (by simp [cl_])) row37 (by simp [cl_])) <| wlOn rfl rfl <| V_ (opLoadRow (cs := d.cells) rfl (hB.range (i := 0) (m := 32) rfl (by simp [cl_])) row37 (by simp [cl_])) <| wlOn rfl rfl <| V_ (opNeRow (eq37 _ x.dig d) eg37 rfl rfl) <| V_ (opPickT rfl rfl) <| wlThen ?_
    cases h6 : decide (x.dig = d)
    ·
     refine wcCondT rfl <| wcSeq <| wcRegion <| A_ rfl <| wlThen <| wcRet ?_
     exact r1_ hQ rfl rfl (endS hC hw (by simp only [saidI, h3, h4, h5, h6, ta_]))
    ·
     refine wcCondF rfl <| wcSkip <| wcOf <| wcSeq <| wcRegion <| A_ rfl <| wlThen <| wcRet ?_
     exact r1_ hQ rfl rfl (endS hC hw (by simp only [saidI, h3, h4, h5, h6, ta_]))
  ·
   refine wcCondT rfl <| wcSeq <| wcRegion <| A_ rfl <| wlThen <| wcRet ?_
   exact r1_ hQ rfl rfl (endS hC hw (by simp only [saidI, h3, h4, ta_]))

theorem rlow_ret (G0 : Gh) (w0 : World) (hw : Holds G0 w0) (bm : Nat) (Om : List (Nat × Obj)) (m : RfS) (hOm : HasL G0 Om) (hm : RfO G0 bm Om m) :
  RetS Tryz.prog 40 #[.pointer (some ⟨bm, 0, none⟩)] G0 w0 (.int .i64 m.low) := by
 have hC := Cx.refl hw
 have hB : Bxs G0 w0 w0.heap.size [] := Bxs.nil _ _ _
 obtain ⟨OKm, v2, v3, hb4, hn5, hl6⟩ := hm.look hOm
 obtain ⟨A8, cap9, rfl⟩ := hn5.form
 obtain ⟨A10, cap11, rfl⟩ := hl6.form
 have hF7 := hb4.row
 refine callsOf Tryz.func40 rfl _ Tryz.ntmps40 rfl _ (argsCons argsNil (t := 0) rfl) ?_; intro Q0 hQ
 refine wcSeq <| wcRegion <| A_ rfl ?_
 refine wlThen (wcSeq (wcRegion ?_))
 refine M_ rfl <| V_ (opNilCheck rfl) <| V_ (opFieldAddr rfl fo64_2) <| V_ (opLoadOne (v := (.int .i64 m.low)) rfl (RowG.cell hC.holds hF7 (j := 3) rfl) one3) <| A_ rfl <| wlThen <| wcRet ?_
 exact r1_ hQ rfl rfl (endS hC hw rfl)

theorem inR_ret (G0 : Gh) (w0 : World) (hw : Holds G0 w0) (bm : Nat) (Om : List (Nat × Obj)) (m : RfS) (hOm : HasL G0 Om) (hm : RfO G0 bm Om m) (sq : Int) :
  RetS Tryz.prog 69 #[.pointer (some ⟨bm, 0, none⟩), .int .i64 sq] G0 w0 (.bool ((inR m sq))) := by
 have hC := Cx.refl hw
 have hB : Bxs G0 w0 w0.heap.size [] := Bxs.nil _ _ _
 obtain ⟨OKm, v2, v3, hb4, hn5, hl6⟩ := hm.look hOm
 obtain ⟨A8, cap9, rfl⟩ := hn5.form
 obtain ⟨A10, cap11, rfl⟩ := hl6.form
 have hF7 := hb4.row
 refine callsOf Tryz.func69 rfl _ Tryz.ntmps69 rfl _ (argsCons (argsCons argsNil (t := 0) rfl) (t := 1) rfl) ?_; intro Q0 hQ
 refine wcSeq <| wcRegion <| A_ rfl ?_
 refine wlThen (wcSeq (wcRegion ?_))
 refine M_ rfl <| M_ rfl <| V_ (opNilCheck rfl) <| V_ (opFieldAddr rfl fo64_2) <| V_ (opLoadOne (v := (.int .i64 m.low)) rfl (RowG.cell hC.holds hF7 (j := 3) rfl) one3) <| V_ (opGtr rfl rfl) <| M_ rfl ?_
 cases h12 : decide (m.low < sq)
 ·
  refine wlOff rfl rfl rfl rfl <| wlOff rfl rfl rfl rfl <| wlOff rfl rfl rfl rfl <| wlOff rfl rfl rfl rfl <| wlOff rfl rfl rfl rfl <| wlOff rfl rfl rfl rfl <| wlOff rfl rfl rfl rfl <| V_ (opPickF rfl rfl) <| A_ rfl <| wlThen <| wcRet ?_
  exact r1_ hQ rfl rfl (endS hC hw (by simp only [inR, h12, ta_]))
 ·
  refine wlOn rfl rfl <| M_ rfl <| wlOn rfl rfl <| M_ rfl <| wlOn rfl rfl <| V_ (opNilCheck rfl) <| wlOn rfl rfl <| V_ (opFieldAddr rfl fo64_2) <| wlOn rfl rfl <| V_ (opLoadOne (v := (.int .i64 m.low)) rfl (RowG.cell hC.holds hF7 (j := 3) rfl) one3) <| wlOn rfl rfl <| V_ (opSub rfl rfl) <| wlOn rfl rfl <| V_ (opLeq rfl rfl) <| V_ (opPickT rfl rfl) <| A_ rfl <| wlThen <| wcRet ?_
  exact r1_ hQ rfl rfl (endS hC hw (by simp only [inR, h12, ta_]))

theorem place_ret (G0 : Gh) (w0 : World) (hw : Holds G0 w0) (bm : Nat) (Om : List (Nat × Obj)) (m : RfS) (hOm : HasL G0 Om) (hm : RfO G0 bm Om m) (n : Int) :
  RetS Tryz.prog 72 #[.pointer (some ⟨bm, 0, none⟩), .int .i64 n] G0 w0 (.int .i64 ((idxG (fun y => y == n) m.crew.nodes 0))) := by
 have hC := Cx.refl hw
 have hB : Bxs G0 w0 w0.heap.size [] := Bxs.nil _ _ _
 obtain ⟨OKm, v2, v3, hb4, hn5, hl6⟩ := hm.look hOm
 obtain ⟨A8, cap9, rfl⟩ := hn5.form
 obtain ⟨A10, cap11, rfl⟩ := hl6.form
 have hF7 := hb4.row
 refine callsOf Tryz.func72 rfl _ Tryz.ntmps72 rfl _ (argsCons (argsCons argsNil (t := 0) rfl) (t := 1) rfl) ?_; intro Q0 hQ
 refine wcSeq <| wcRegion <| A_ rfl ?_
 refine wlThen (wcSeq (wcSeq (wcRegion ?_)))
 refine A_ rfl <| wlThen <| wcBlock ?_
 refine WC.sub (wrInd (ι := Nat) (fun k => m.crew.nodes.length - k) (fun k G w => Cx w0 G0 G w ∧ Bxs G w w0.heap.size [] ∧ Sl G (.slice A8 m.crew.nodes.length cap9) m.crew.nodes ∧ Sl G (.slice A10 m.l.length cap11) m.l ∧ HasL G Om ∧ RfO G bm Om m ∧ RowG G bm 0 [(.int .i64 m.crew.faults), (.slice A8 m.crew.nodes.length cap9), (.int .i64 m.self), (.int .i64 m.low), (.slice A10 m.l.length cap11)] ∧ idxG (fun y => y == n) (m.crew.nodes.drop k) k = idxG (fun y => y == n) m.crew.nodes 0) (fun k => (((Env.nil.put 0 (.pointer (some ⟨bm, 0, none⟩))).put 1 (.int .i64 n)).put 5 (.int .i64 (((k : Nat) : Int))))) ?_ (0) _ _ ⟨hC, hB, hn5, hl6, hOm, hm, hF7, rfl⟩) (fun _ ha => (((ha.start.c ha 0 rfl).c ha 1 rfl).c ha 5 rfl))
 rintro k G w N0 IH0 ⟨hC, hB, hn5, hl6, hOm, hm, hF7, hI⟩
 refine wcSeq (wcSeq (wcRegion ?_))
 refine M_ rfl <| M_ rfl <| V_ (opNilCheck rfl) <| V_ (opFieldAddr rfl fo64_0) <| V_ (opFieldAddr rfl fo24_1) <| V_ (opLoadOne (v := (.slice A8 m.crew.nodes.length cap9)) rfl (RowG.cell hC.holds hF7 (j := 1) rfl) one22) <| V_ (opLen rfl isl22) <| V_ (opLssN rfl rfl) <| wlThen ?_
 cases h12 : decide (k < m.crew.nodes.length)
 ·
  refine wcCondF rfl <| wcExit <| wcOf <| wcSeq <| wcRegion <| A_ rfl <| wlThen <| wcRet ?_
  exact r1_ hQ rfl rfl (endS hC hw (by have e := hI; rw [List.drop_eq_nil_of_le (Nat.le_of_not_lt (of_decide_eq_false h12))] at e; simp [idxG, h12] at e; first | (simp [h12, e]; done) | (simp [h12, ← e]; done) | (simp [h12]; exact e)))
 ·
  refine wcCondT rfl <| wcSkip <| wcOf <| wcSeq ?_
  refine wcBlock (wcSeq (wcRegion ?_))
  refine M_ rfl <| V_ (opNilCheck rfl) <| V_ (opFieldAddr rfl fo64_0) <| V_ (opFieldAddr rfl fo24_1) <| V_ (opLoadOne (v := (.slice A8 m.crew.nodes.length cap9)) rfl (RowG.cell hC.holds hF7 (j := 1) rfl) one22) <| M_ rfl ?_
  obtain ⟨x13, hx14⟩ : ∃ y_, m.crew.nodes[k]? = some y_ := ⟨_, List.getElem?_eq_getElem (of_decide_eq_true h12)⟩
  obtain ⟨b15, o16, row17, hA20, hr18, hi19⟩ := hn5.elem hx14; subst hA20
  obtain rfl := hi19
  refine V_ (opIndexAddr rfl rfl slo22 (of_decide_eq_true h12)) <| V_ (opLoadOne (v := (.int .i64 x13)) rfl (RowG.cell0 hC.holds hr18 rfl) one3) <| M_ rfl <| V_ (opEql rfl rfl) <| wlThen ?_
  cases h21 : x13 == n
  ·
   refine wcCondF rfl <| wcSkip <| wcOf <| wcRegion <| M_ rfl <| V_ (opIncr rfl rfl (incr_ok (of_decide_eq_true h12) hn5.le)) <| A_ rfl <| wlRound ?_
   exact (IH0 (k + 1) _ _ ⟨hC, hB, hn5, hl6, hOm, hm, hF7, (by rw [← hI, drop_get hx14]; simp [idxG, h12, h21])⟩ (by have := of_decide_eq_true h12; simp; omega)).sub (fun _ ha => (((ha.start.c ha 0 rfl).c ha 1 rfl).c ha 5 rfl))
  ·
   refine wcCondT rfl <| wcSeq <| wcRegion <| M_ rfl <| A_ rfl <| wlThen <| wcRet ?_
   exact r1_ hQ rfl rfl (endS hC hw (by have e := hI; rw [drop_get hx14] at e; simp [idxG, h12, h21] at e; first | (simp [h12, h21, e]; done) | (simp [h12, h21, ← e]; done) | (simp [h12, h21]; exact e)))

theorem count_ret (G0 : Gh) (w0 : World) (hw : Holds G0 w0) (bm : Nat) (Om : List (Nat × Obj)) (m : RfS) (hOm : HasL G0 Om) (hm : RfO G0 bm Om m) (vl : Value) (l : List RVt) (hl : Sl G0 vl l) (v : Int) (d : Dig) (wo : Int) (hln : l.length = m.crew.nodes.length) :
  RetS Tryz.prog 77 #[.pointer (some ⟨bm, 0, none⟩), vl, .int .i64 v, .agg d.cells.toArray, .int .i64 wo] G0 w0 (.int .i64 ((((votesR m.crew.nodes l v d wo l.length : Nat) : Int)))) := by
 have hC := Cx.refl hw
 have hB : Bxs G0 w0 w0.heap.size [] := Bxs.nil _ _ _
 obtain ⟨OKm, v2, v3, hb4, hn5, hl6⟩ := hm.look hOm
 obtain ⟨A8, cap9, rfl⟩ := hn5.form
 obtain ⟨A10, cap11, rfl⟩ := hl6.form
 have hF7 := hb4.row
 obtain ⟨A12, cap13, rfl⟩ := hl.form
 refine callsOf Tryz.func77 rfl _ Tryz.ntmps77 rfl _ (argsCons (argsCons (argsCons (argsCons (argsCons argsNil (t := 0) rfl) (t := 1) rfl) (t := 2) rfl) (t := 3) rfl) (t := 4) rfl) ?_; intro Q0 hQ
 refine wcSeq <| wcRegion ?_
 refine wlBox (cs := d.cells) hC hB rfl rfl rfl ?_; intro b14 w hk hC hB
 refine A_ rfl ?_
 refine wlThen (wcSeq (wcRegion ?_))
 refine A_ rfl ?_
 refine wlThen (wcSeq (wcSeq (wcRegion ?_)))
 refine A_ rfl <| wlThen <| wcBlock ?_
 refine WC.sub (wrInd (ι := Nat × Nat) (fun i => match i with | (k, n) => l.length - k) (fun i G w => match i with | (k, n) => Cx w0 G0 G w ∧ Bxs G w w0.heap.size [(b14, 37, d.cells)] ∧ Sl G (.slice A8 m.crew.nodes.length cap9) m.crew.nodes ∧ Sl G (.slice A10 m.l.length cap11) m.l ∧ HasL G Om ∧ RfO G bm Om m ∧ Sl G (.slice A12 l.length cap13) l ∧ RowG G bm 0 [(.int .i64 m.crew.faults), (.slice A8 m.crew.nodes.length cap9), (.int .i64 m.self), (.int .i64 m.low), (.slice A10 m.l.length cap11)] ∧ k ≤ l.length ∧ n = votesR m.crew.nodes l v d wo k) (fun i => match i with | (k, n) => (((((((Env.nil.put 0 (.pointer (some ⟨bm, 0, none⟩))).put 1 (.slice A12 l.length cap13)).put 2 (.int .i64 v)).put 4 (.int .i64 wo)).put 8 (.pointer (some ⟨b14, 0, none⟩))).put 11 (.int .i64 (((n : Nat) : Int)))).put 12 (.int .i64 (((k : Nat) : Int))))) ?_ (0, 0) _ _ ⟨hC, hB, hn5, hl6, hOm, hm, hl, hF7, (Nat.zero_le _), rfl⟩) (fun _ ha => (((((((ha.start.c ha 0 rfl).c ha 1 rfl).c ha 2 rfl).c ha 4 rfl).c ha 8 rfl).c ha 11 rfl).c ha 12 rfl))
 rintro ⟨k, n⟩ G w N0 IH0 ⟨hC, hB, hn5, hl6, hOm, hm, hl, hF7, hkl, hI⟩
 refine wcSeq (wcSeq (wcRegion ?_))
 refine M_ rfl <| M_ rfl <| V_ (opLen rfl isl67) <| V_ (opLssN rfl rfl) <| wlThen ?_
 cases h15 : decide (k < l.length)
 ·
  refine wcCondF rfl <| wcExit <| wcOf <| wcSeq <| wcRegion <| M_ rfl <| A_ rfl <| wlThen <| wcRet ?_
  exact r1_ hQ rfl rfl (endS hC hw (by rw [hI, show k = l.length from by have q := of_decide_eq_false h15; omega]))
 ·
  refine wcCondT rfl <| wcSkip <| wcOf <| wcSeq <| wcBlock <| wcSeq ?_
  refine wcDrawS 35 [0, 0, 3, 7, 15, 31, 63, 63, 255, 511, 1023, 63, 4095, 8191, 16383, 32767, 32767, 131071, 262143, 524287, 32767, 2097151, 4194303, 8388607, 16777215, 33554431, 67108863, 134217727, 268435455, 16777215, 1073741823, 2147483647, 16777215, 8589934591, 17179869183] fmix (by kernel_rfl) (by kernel_rfl) rfl hC hB ?_; intro w hC hB
  refine D_ 0 rfl rfl (fun _ => opMove rfl) <| D_ 1 rfl rfl (fun _ => opMove rfl) ?_
  obtain ⟨x16, hx17⟩ : ∃ y_, l[k]? = some y_ := ⟨_, List.getElem?_eq_getElem (of_decide_eq_true h15)⟩
  obtain ⟨b18, o19, row20, hA23, hr21, hi22⟩ := hl.elem hx17; subst hA23
  obtain rfl := hi22
  refine D_ 2 rfl rfl (fun _ => (opIndexAddr rfl rfl slo67 (of_decide_eq_true h15))) <| D_ 3 rfl rfl (fun _ => (opFieldAddr rfl fo66_0)) <| E_ 4 rfl rfl (opLoadOne (v := (.bool x16.has)) rfl (RowG.cell0 hC.holds hr21 (by simp [cl_])) one4) <| D_ 5 rfl rfl (fun _ => opMove rfl) ?_
  cases h24 : x16.has
  ·
   refine O_ 6 rfl rfl rfl rfl rfl <| O_ 7 rfl rfl rfl rfl rfl <| O_ 8 rfl rfl rfl rfl rfl <| O_ 9 rfl rfl rfl rfl rfl <| O_ 10 rfl rfl rfl rfl rfl <| O_ 11 rfl rfl rfl rfl rfl <| O_ 12 rfl rfl rfl rfl rfl <| D_ 13 rfl rfl (fun _ => opPickF rfl rfl) <| D_ 14 rfl rfl (fun _ => opMove rfl) <| O_ 15 rfl rfl rfl rfl rfl <| O_ 16 rfl rfl rfl rfl rfl <| O_ 17 rfl rfl rfl rfl rfl <| O_ 18 rfl rfl rfl rfl rfl <| O_ 19 rfl rfl rfl rfl rfl <| O_ 20 rfl rfl rfl rfl rfl <| O_ 21 rfl rfl rfl rfl rfl <| D_ 22 rfl rfl (fun _ => opPickF rfl rfl) <| D_ 23 rfl rfl (fun _ => opMove rfl) <| O_ 24 rfl rfl rfl rfl rfl <| O_ 25 rfl rfl rfl rfl rfl ?_
   refine O_ 26 rfl rfl rfl rfl rfl <| O_ 27 rfl rfl rfl rfl rfl <| O_ 28 rfl rfl rfl rfl rfl <| O_ 29 rfl rfl rfl rfl rfl <| O_ 30 rfl rfl rfl rfl rfl <| O_ 31 rfl rfl rfl rfl rfl <| O_ 32 rfl rfl rfl rfl rfl <| O_ 33 rfl rfl rfl rfl rfl <| D_ 34 rfl rfl (fun _ => opPickF rfl rfl) <| wdDone (by kernel_rfl) <| wcOf <| wcCondF rfl <| wcSkip <| wcOf <| wcRegion <| M_ rfl <| V_ (opIncr rfl rfl (incr_ok (of_decide_eq_true h15) hl.le)) <| A_ rfl <| wlRound ?_
   exact (IH0 (k + 1, n) _ _ ⟨hC, hB, hn5, hl6, hOm, hm, hl, hF7, (of_decide_eq_true h15), (by rw [hI]; simp only [votesR, List.getD_eq_getElem?_getD, hx17, Option.getD_some, h15, h24, ta_, Nat.add_zero])⟩ (by have := of_decide_eq_true h15; simp; omega)).sub (fun _ ha => (((((((ha.start.c ha 0 rfl).c ha 1 rfl).c ha 2 rfl).c ha 4 rfl).c ha 8 rfl).c ha 11 rfl).c ha 12 rfl))
  ·
   refine DG_ 6 rfl rfl rfl rfl (fun _ => opMove rfl) <| DG_ 7 rfl rfl rfl rfl (fun _ => opMove rfl) <| DG_ 8 rfl rfl rfl rfl (fun _ => (opIndexAddr rfl rfl slo67 (of_decide_eq_true h15))) <| DG_ 9 rfl rfl rfl rfl (fun _ => (opFieldAddr rfl fo66_1)) <| EG_ 10 rfl rfl rfl rfl (opLoadOne (v := (.int .i64 x16.view)) rfl (RowG.cell hC.holds hr21 (j := 1) (by simp [cl_])) one3) <| DG_ 11 rfl rfl rfl rfl (fun _ => opMove rfl) <| DG_ 12 rfl rfl rfl rfl (fun _ => opEql rfl rfl) <| D_ 13 rfl rfl (fun _ => opPickT rfl rfl) <| D_ 14 rfl rfl (fun _ => opMove rfl) ?_
   cases h25 : x16.view == v
   ·
    refine O_ 15 rfl rfl rfl rfl rfl <| O_ 16 rfl rfl rfl rfl rfl <| O_ 17 rfl rfl rfl rfl rfl <| O_ 18 rfl rfl rfl rfl rfl <| O_ 19 rfl rfl rfl rfl rfl <| O_ 20 rfl rfl rfl rfl rfl <| O_ 21 rfl rfl rfl rfl rfl <| D_ 22 rfl rfl (fun _ => opPickF rfl rfl) <| D_ 23 rfl rfl (fun _ => opMove rfl) <| O_ 24 rfl rfl rfl rfl rfl <| O_ 25 rfl rfl rfl rfl rfl <| O_ 26 rfl rfl rfl rfl rfl <| O_ 27 rfl rfl rfl rfl rfl <| O_ 28 rfl rfl rfl rfl rfl <| O_ 29 rfl rfl rfl rfl rfl <| O_ 30 rfl rfl rfl rfl rfl <| O_ 31 rfl rfl rfl rfl rfl <| O_ 32 rfl rfl rfl rfl rfl <| O_ 33 rfl rfl rfl rfl rfl <| D_ 34 rfl rfl (fun _ => opPickF rfl rfl) ?_
    refine wdDone (by kernel_rfl) <| wcOf <| wcCondF rfl <| wcSkip <| wcOf <| wcRegion <| M_ rfl <| V_ (opIncr rfl rfl (incr_ok (of_decide_eq_true h15) hl.le)) <| A_ rfl <| wlRound ?_
    exact (IH0 (k + 1, n) _ _ ⟨hC, hB, hn5, hl6, hOm, hm, hl, hF7, (of_decide_eq_true h15), (by rw [hI]; simp only [votesR, List.getD_eq_getElem?_getD, hx17, Option.getD_some, h15, h24, h25, ta_, Nat.add_zero])⟩ (by have := of_decide_eq_true h15; simp; omega)).sub (fun _ ha => (((((((ha.start.c ha 0 rfl).c ha 1 rfl).c ha 2 rfl).c ha 4 rfl).c ha 8 rfl).c ha 11 rfl).c ha 12 rfl))
   ·
    refine DG_ 15 rfl rfl rfl rfl (fun _ => opMove rfl) <| DG_ 16 rfl rfl rfl rfl (fun _ => opMove rfl) <| DG_ 17 rfl rfl rfl rfl (fun _ => (opIndexAddr rfl rfl slo67 (of_decide_eq_true h15))) <| DG_ 18 rfl rfl rfl rfl (fun _ => (opFieldAddr rfl fo66_2)) <| EG_ 19 rfl rfl rfl rfl (opLoadRow (cs := x16.dig.cells) rfl (RowG.range hC.holds (hr21.part (i := 2) (m := 32) (by simp [cl_]))) row37 (by simp [cl_])) <| EG_ 20 rfl rfl rfl rfl (opLoadRow (cs := d.cells) rfl (hB.range (i := 0) (m := 32) rfl (by simp [cl_])) row37 (by simp [cl_])) <| DG_ 21 rfl rfl rfl rfl (fun _ => (opEqRow (eq37 _ x16.dig d) eg37 rfl rfl)) <| D_ 22 rfl rfl (fun _ => opPickT rfl rfl) <| D_ 23 rfl rfl (fun _ => opMove rfl) ?_
    cases h26 : decide (x16.dig = d)
    ·
     refine O_ 24 rfl rfl rfl rfl rfl <| O_ 25 rfl rfl rfl rfl rfl <| O_ 26 rfl rfl rfl rfl rfl <| O_ 27 rfl rfl rfl rfl rfl <| O_ 28 rfl rfl rfl rfl rfl <| O_ 29 rfl rfl rfl rfl rfl <| O_ 30 rfl rfl rfl rfl rfl <| O_ 31 rfl rfl rfl rfl rfl <| O_ 32 rfl rfl rfl rfl rfl <| O_ 33 rfl rfl rfl rfl rfl <| D_ 34 rfl rfl (fun _ => opPickF rfl rfl) <| wdDone (by kernel_rfl) <| wcOf <| wcCondF rfl <| wcSkip <| wcOf <| wcRegion <| M_ rfl <| V_ (opIncr rfl rfl (incr_ok (of_decide_eq_true h15) hl.le)) <| A_ rfl ?_
     refine wlRound ?_
     exact (IH0 (k + 1, n) _ _ ⟨hC, hB, hn5, hl6, hOm, hm, hl, hF7, (of_decide_eq_true h15), (by rw [hI]; simp only [votesR, List.getD_eq_getElem?_getD, hx17, Option.getD_some, h15, h24, h25, h26, ta_, Nat.add_zero])⟩ (by have := of_decide_eq_true h15; simp; omega)).sub (fun _ ha => (((((((ha.start.c ha 0 rfl).c ha 1 rfl).c ha 2 rfl).c ha 4 rfl).c ha 8 rfl).c ha 11 rfl).c ha 12 rfl))
    ·
     refine DG_ 24 rfl rfl rfl rfl (fun _ => opMove rfl) <| DG_ 25 rfl rfl rfl rfl (fun _ => opNilCheck rfl) <| DG_ 26 rfl rfl rfl rfl (fun _ => (opFieldAddr rfl fo64_0)) <| DG_ 27 rfl rfl rfl rfl (fun _ => (opFieldAddr rfl fo24_1)) <| EG_ 28 rfl rfl rfl rfl (opLoadOne (v := (.slice A8 m.crew.nodes.length cap9)) rfl (RowG.cell hC.holds hF7 (j := 1) rfl) one22) <| DG_ 29 rfl rfl rfl rfl (fun _ => opMove rfl) ?_
     obtain ⟨x27, hx28⟩ : ∃ y_, m.crew.nodes[k]? = some y_ := ⟨_, List.getElem?_eq_getElem (by have q := of_decide_eq_true h15; omega)⟩
     obtain ⟨b29, o30, row31, hA34, hr32, hi33⟩ := hn5.elem hx28; subst hA34
     obtain rfl := hi33
     refine DG_ 30 rfl rfl rfl rfl (fun _ => (opIndexAddr rfl rfl slo22 (by have q := of_decide_eq_true h15; omega))) <| EG_ 31 rfl rfl rfl rfl (opLoadOne (v := (.int .i64 x27)) rfl (RowG.cell0 hC.holds hr32 rfl) one3) <| DG_ 32 rfl rfl rfl rfl (fun _ => opMove rfl) <| DG_ 33 rfl rfl rfl rfl (fun _ => opNeq rfl rfl) <| D_ 34 rfl rfl (fun _ => opPickT rfl rfl) <| wdDone (by kernel_rfl) <| wcOf ?_
     cases h35 : x27 != wo
     ·
      refine wcCondF rfl <| wcSkip <| wcOf <| wcRegion <| M_ rfl <| V_ (opIncr rfl rfl (incr_ok (of_decide_eq_true h15) hl.le)) <| A_ rfl <| wlRound ?_
      exact (IH0 (k + 1, n) _ _ ⟨hC, hB, hn5, hl6, hOm, hm, hl, hF7, (of_decide_eq_true h15), (by rw [hI]; simp only [votesR, List.getD_eq_getElem?_getD, hx17, hx28, Option.getD_some, h15, h24, h25, h26, h35, ta_, Nat.add_zero])⟩ (by have := of_decide_eq_true h15; simp; omega)).sub (fun _ ha => (((((((ha.start.c ha 0 rfl).c ha 1 rfl).c ha 2 rfl).c ha 4 rfl).c ha 8 rfl).c ha 11 rfl).c ha 12 rfl))
     ·
      refine wcCondT rfl <| wcRegion <| M_ rfl <| V_ (opIncr rfl rfl (by have q := votesR_le m.crew.nodes l v d wo k; rw [← hI] at q; have q2 := of_decide_eq_true h15; have q3 := hl.le; unfold maxL at q3; omega)) <| A_ rfl <| wlNil <| wcOf <| wcRegion <| M_ rfl <| V_ (opIncr rfl rfl (incr_ok (of_decide_eq_true h15) hl.le)) <| A_ rfl <| wlRound ?_
      exact (IH0 (k + 1, n + 1) _ _ ⟨hC, hB, hn5, hl6, hOm, hm, hl, hF7, (of_decide_eq_true h15), (by rw [hI]; simp only [votesR, List.getD_eq_getElem?_getD, hx17, hx28, Option.getD_some, h15, h24, h25, h26, h35, ta_, Nat.add_zero])⟩ (by have := of_decide_eq_true h15; simp; omega)).sub (fun _ ha => (((((((ha.start.c ha 0 rfl).c ha 1 rfl).c ha 2 rfl).c ha 4 rfl).c ha 8 rfl).c ha 11 rfl).c ha 12 rfl))

theorem rprep_ret (G0 : Gh) (w0 : World) (hw : Holds G0 w0) (bm : Nat) (Om : List (Nat × Obj)) (m : RfS) (hOm : HasL G0 Om) (hm : RfO G0 bm Om m) (i0 : Nat) (hi0 : i0 < m.l.length) :
  RetS Tryz.prog 76 #[.pointer (some ⟨bm, 0, none⟩), .int .i64 ((i0 : Nat) : Int)] G0 w0 (.bool ((prepR m i0))) := by
 have hC := Cx.refl hw
 have hB : Bxs G0 w0 w0.heap.size [] := Bxs.nil _ _ _
 obtain ⟨OKm, v2, v3, hb4, hn5, hl6⟩ := hm.look hOm
 obtain ⟨A8, cap9, rfl⟩ := hn5.form
 obtain ⟨A10, cap11, rfl⟩ := hl6.form
 have hF7 := hb4.row
 refine callsOf Tryz.func76 rfl _ Tryz.ntmps76 rfl _ (argsCons (argsCons argsNil (t := 0) rfl) (t := 1) rfl) ?_; intro Q0 hQ
 refine wcSeq <| wcRegion <| A_ rfl ?_
 refine wlThen (wcSeq (wcRegion ?_))
 refine M_ rfl <| V_ (opNilCheck rfl) <| V_ (opFieldAddr rfl fo64_3) <| V_ (opLoadOne (v := (.slice A10 m.l.length cap11)) rfl (RowG.cell hC.holds hF7 (j := 4) rfl) one62) <| M_ rfl ?_
 obtain ⟨x12, hx13⟩ : ∃ y_, m.l[i0]? = some y_ := ⟨_, List.getElem?_eq_getElem hi0⟩
 obtain ⟨b14, o15, row16, hA19, hr17, hi18⟩ := hl6.elem hx13; subst hA19
 obtain ⟨v20, v22, v24, rfl, hs21, hs23, hs25⟩ := RSlot.opIs hi18
 obtain ⟨A26, cap27, rfl⟩ := hs21.form
 obtain ⟨A28, cap29, rfl⟩ := hs23.form
 obtain ⟨A30, cap31, rfl⟩ := hs25.form
 refine V_ (opIndexAddr rfl rfl slo62 hi0) <| V_ (opFieldAddr rfl fo69_0) <| V_ (opLoadRow (cs := x12.last.cells) rfl (RowG.range hC.holds (hr17.part (i := 0) (m := 34) (by simp [cl_]))) row66 (by simp [cl_])) ?_
 refine wlAlloc hC hB zero66 rfl ?_; intro b32 w hk hC hB
 refine wlStore 0 (vs := x12.last.cells) (cs := ((.bool false) :: ((.int .i64 0) :: (Dig.zero.cells ++ [])))) (cs' := x12.last.cells) hC hB rfl rfl rfl sz66 rfl (by simp [cl_]) (by simp [cl_, Value.oneCell']) (by simp [cl_]) (by simp [cl_]) rfl ?_; intro w hC hB
 refine wlThen <| wcSeq ?_
 refine wcDrawS 33 [0, 1, 3, 7, 7, 23, 55, 119, 7, 503, 1015, 2039, 7, 4103, 7, 16391, 7, 65543, 196615, 458759, 7, 1048583, 4128775, 8388607, 7, 16777223, 50331655, 117440519, 251658247, 520093703, 1073741823, 2147483647, 4294967295] fmix (by kernel_rfl) (by kernel_rfl) rfl hC hB ?_; intro w hC hB
 refine D_ 0 rfl rfl (fun _ => (opFieldAddr rfl fo66_0)) <| E_ 1 rfl rfl (opLoadOne (v := (.bool x12.last.has)) rfl (hB.cell (i := 0) rfl (by simp [cl_])) one4) <| D_ 2 rfl rfl (fun _ => opMove rfl) ?_
 cases h33 : x12.last.has
 ·
  refine O_ 3 rfl rfl rfl rfl rfl <| O_ 4 rfl rfl rfl rfl rfl <| O_ 5 rfl rfl rfl rfl rfl <| O_ 6 rfl rfl rfl rfl rfl <| O_ 7 rfl rfl rfl rfl rfl <| O_ 8 rfl rfl rfl rfl rfl <| O_ 9 rfl rfl rfl rfl rfl <| O_ 10 rfl rfl rfl rfl rfl <| O_ 11 rfl rfl rfl rfl rfl <| O_ 12 rfl rfl rfl rfl rfl <| O_ 13 rfl rfl rfl rfl rfl <| O_ 14 rfl rfl rfl rfl rfl <| O_ 15 rfl rfl rfl rfl rfl <| O_ 16 rfl rfl rfl rfl rfl <| O_ 17 rfl rfl rfl rfl rfl <| O_ 18 rfl rfl rfl rfl rfl <| O_ 19 rfl rfl rfl rfl rfl <| O_ 20 rfl rfl rfl rfl rfl <| O_ 21 rfl rfl rfl rfl rfl <| O_ 22 rfl rfl rfl rfl rfl ?_
  refine O_ 23 rfl rfl rfl rfl rfl <| O_ 24 rfl rfl rfl rfl rfl <| O_ 25 rfl rfl rfl rfl rfl <| O_ 26 rfl rfl rfl rfl rfl <| O_ 27 rfl rfl rfl rfl rfl <| O_ 28 rfl rfl rfl rfl rfl <| O_ 29 rfl rfl rfl rfl rfl <| O_ 30 rfl rfl rfl rfl rfl <| D_ 31 rfl rfl (fun _ => opPickF rfl rfl) <| D_ 32 rfl rfl (fun _ => opAssign rfl) <| wdDone (by kernel_rfl) <| wcOf <| wcRet ?_
  exact r1_ hQ rfl rfl (endS hC hw (by simp only [prepR, List.getD_eq_getElem?_getD, hx13, Option.getD_some, h33, ta_]))
 ·
  refine DG_ 3 rfl rfl rfl rfl (fun _ => opMove rfl) <| DG_ 4 rfl rfl rfl rfl (fun _ => opMove rfl) <| DG_ 5 rfl rfl rfl rfl (fun _ => opNilCheck rfl) <| DG_ 6 rfl rfl rfl rfl (fun _ => (opFieldAddr rfl fo64_3)) <| EG_ 7 rfl rfl rfl rfl (opLoadOne (v := (.slice (some ⟨b14, o15, none⟩) m.l.length cap11)) rfl (RowG.cell hC.holds hF7 (j := 4) rfl) one62) <| DG_ 8 rfl rfl rfl rfl (fun _ => opMove rfl) <| DG_ 9 rfl rfl rfl rfl (fun _ => (opIndexAddr rfl rfl slo62 hi0)) <| DG_ 10 rfl rfl rfl rfl (fun _ => (opFieldAddr rfl fo69_1)) <| EG_ 11 rfl rfl rfl rfl (opLoadOne (v := (.slice A26 x12.pre.length cap27)) rfl (RowG.cell hC.holds hr17 (j := 34) (by simp [cl_])) one67) <| DG_ 12 rfl rfl rfl rfl (fun _ => (opFieldAddr rfl fo66_1)) <| EG_ 13 rfl rfl rfl rfl (opLoadOne (v := (.int .i64 x12.last.view)) rfl (hB.cell (i := 0) rfl (by simp [cl_])) one3) <| DG_ 14 rfl rfl rfl rfl (fun _ => (opFieldAddr rfl fo66_2)) <| EG_ 15 rfl rfl rfl rfl (opLoadRow (cs := x12.last.dig.cells) rfl (hB.range (i := 0) (m := 32) rfl (by simp [cl_])) row37 (by simp [cl_])) <| DG_ 16 rfl rfl rfl rfl (fun _ => opMove rfl) <| DG_ 17 rfl rfl rfl rfl (fun _ => opNilCheck rfl) <| DG_ 18 rfl rfl rfl rfl (fun _ => (opFieldAddr rfl fo64_0)) <| EG_ 19 rfl rfl rfl rfl (opLoadRow (cs := [(.int .i64 m.crew.faults), (.slice A8 m.crew.nodes.length cap9)]) rfl (RowG.range hC.holds (hF7.part (i := 0) (m := 2) rfl)) row24 rfl) <| DG_ 20 rfl rfl rfl rfl (fun _ => (opFieldAddr rfl fo66_1)) <| EG_ 21 rfl rfl rfl rfl (opLoadOne (v := (.int .i64 x12.last.view)) rfl (hB.cell (i := 0) rfl (by simp [cl_])) one3) <| DG_ 24 rfl rfl rfl rfl (fun _ => opMove rfl) ?_
  refine DG_ 25 rfl rfl rfl rfl (fun _ => opNilCheck rfl) <| DG_ 26 rfl rfl rfl rfl (fun _ => (opFieldAddr rfl fo64_0)) <| DG_ 27 rfl rfl rfl rfl (fun _ => (opFieldAddr rfl fo24_0)) <| EG_ 28 rfl rfl rfl rfl (opLoadOne (v := (.int .i64 m.crew.faults)) rfl (RowG.cell hC.holds hF7 (j := 0) rfl) one3) <| DG_ 29 rfl rfl rfl rfl (fun _ => opMul rfl rfl) ?_
  refine wdAll [22] (by kernel_rfl) rfl ⟨wd1 rfl ?_, trivial⟩
  intro hGd
  refine wlOn rfl rfl ?_
  refine wlCallS hC hB rfl co73 rfl rfl (rleader_ret _ _ hC.holds _ m.crew (Crew.mkIs (x := m.crew) hn5) x12.last.view) ?_; intro w hk hC hB
  refine wdNext hGd rfl (kpKeep rfl (kpDrop rfl (kpDrop rfl (kpKeep rfl (kpKeep rfl (kpKeep rfl (kpKeep rfl (kpDrop rfl kpNil)))))))) (Tk.cons (p := (_, fun w => OpVal _ _ _ w _ _)) (opLoadOne (v := (.int .i64 m.crew.faults)) rfl (RowG.cell hC.holds hF7 (j := 0) rfl) one3) (Tk.cons (p := (_, fun w => OpVal _ _ _ w _ _)) (opLoadRow (cs := x12.last.dig.cells) rfl (hB.range (i := 0) (m := 32) rfl (by simp [cl_])) row37 (by simp [cl_])) (Tk.cons (p := (_, fun w => OpVal _ _ _ w _ _)) (opLoadOne (v := (.int .i64 x12.last.view)) rfl (hB.cell (i := 0) rfl (by simp [cl_])) one3) (Tk.cons (p := (_, fun w => OpVal _ _ _ w _ _)) (opLoadOne (v := (.slice A26 x12.pre.length cap27)) rfl (RowG.cell hC.holds hr17 (j := 34) (by simp [cl_])) one67) (Tk.cons (p := (_, fun w => OpVal _ _ _ w _ _)) (opLoadOne (v := (.slice (some ⟨b14, o15, none⟩) m.l.length cap11)) rfl (RowG.cell hC.holds hF7 (j := 4) rfl) one62) (Tk.nil _)))))) ?_
  refine wdAll [23] (by kernel_rfl) rfl ⟨wd1 rfl ?_, trivial⟩
  intro hGd
  refine wlOn rfl rfl ?_
  refine wlCallS hC hB rfl co77 rfl rfl (count_ret _ _ hC.holds bm Om m hOm hm _ x12.pre hs21 x12.last.view x12.last.dig (((leaderI m.crew x12.last.view))) (OKm.pre _ _ hx13)) ?_; intro w hk hC hB
  refine wdNext hGd rfl (kpKeep rfl (kpDrop rfl (kpDrop rfl (kpDrop rfl (kpDrop rfl kpNil))))) (Tk.cons (p := (_, fun w => OpVal _ _ _ w _ _)) (opLoadOne (v := (.int .i64 m.crew.faults)) rfl (RowG.cell hC.holds hF7 (j := 0) rfl) one3) (Tk.nil _)) ?_
  refine DG_ 30 rfl rfl rfl rfl (fun _ => opGeq rfl rfl) <| D_ 31 rfl rfl (fun _ => opPickT rfl rfl) <| D_ 32 rfl rfl (fun _ => opAssign rfl) <| wdDone (by kernel_rfl) <| wcOf <| wcRet ?_
  exact r1_ hQ rfl rfl (endS hC hw (by simp only [prepR, List.getD_eq_getElem?_getD, hx13, Option.getD_some, h33, ta_]))

theorem rPrep_ret (G0 : Gh) (w0 : World) (hw : Holds G0 w0) (bm : Nat) (Om : List (Nat × Obj)) (m : RfS) (hOm : HasL G0 Om) (hm : RfO G0 bm Om m) (sq : Int) (hsq : I6 sq) :
  RetS Tryz.prog 45 #[.pointer (some ⟨bm, 0, none⟩), .int .i64 sq] G0 w0 (.bool ((preparedR m sq))) := by
 have hC := Cx.refl hw
 have hB : Bxs G0 w0 w0.heap.size [] := Bxs.nil _ _ _
 obtain ⟨OKm, v2, v3, hb4, hn5, hl6⟩ := hm.look hOm
 obtain ⟨A8, cap9, rfl⟩ := hn5.form
 obtain ⟨A10, cap11, rfl⟩ := hl6.form
 have hF7 := hb4.row
 refine callsOf Tryz.func45 rfl _ Tryz.ntmps45 rfl _ (argsCons (argsCons argsNil (t := 0) rfl) (t := 1) rfl) ?_; intro Q0 hQ
 refine wcSeq <| wcRegion <| A_ rfl ?_
 refine wlThen (wcSeq (wcRegion ?_))
 refine M_ rfl <| M_ rfl ?_
 refine wlCallS hC hB rfl co69 rfl rfl (inR_ret _ _ hC.holds bm Om m hOm hm sq) ?_; intro w hk hC hB
 refine M_ rfl ?_
 cases h12 : ((inR m sq))
 ·
  refine wlOff rfl rfl rfl rfl <| wlOff rfl rfl rfl rfl <| wlOff rfl rfl rfl rfl <| wlOff rfl rfl rfl rfl <| wlOff rfl rfl rfl rfl <| wlOff rfl rfl rfl rfl <| wlOff rfl rfl rfl rfl <| wlOff rfl rfl rfl rfl <| wlOff rfl rfl rfl rfl <| V_ (opPickF rfl rfl) <| A_ rfl <| wlThen <| wcRet ?_
  exact r1_ hQ rfl rfl (endS hC hw (by simp only [preparedR, h12, ta_]))
 ·
  refine wlOn rfl rfl <| M_ rfl <| wlOn rfl rfl <| M_ rfl <| wlOn rfl rfl <| M_ rfl <| wlOn rfl rfl <| V_ (opNilCheck rfl) <| wlOn rfl rfl <| V_ (opFieldAddr rfl fo64_2) <| wlOn rfl rfl <| V_ (opLoadOne (v := (.int .i64 m.low)) rfl (RowG.cell hC.holds hF7 (j := 3) rfl) one3) <| wlOn rfl rfl <| V_ (opSub rfl rfl) <| wlOn rfl rfl <| V_ (OpVal.cast (v' := .int .i64 (((ixR m sq) : Nat) : Int)) (opSub rfl rfl) (congrArg (Value.int .i64) (ixR_eq OKm hsq h12))) <| wlOn rfl rfl ?_
  refine wlCallS hC hB rfl co76 rfl rfl (rprep_ret _ _ hC.holds bm Om m hOm hm ((ixR m sq)) (ixR_lt OKm hsq h12)) ?_; intro w hk hC hB
  refine V_ (opPickT rfl rfl) <| A_ rfl <| wlThen <| wcRet ?_
  exact r1_ hQ rfl rfl (endS hC hw (by simp only [preparedR, h12, ta_]))

theorem rcomm_ret (G0 : Gh) (w0 : World) (hw : Holds G0 w0) (bm : Nat) (Om : List (Nat × Obj)) (m : RfS) (hOm : HasL G0 Om) (hm : RfO G0 bm Om m) (sq : Int) (hsq : I6 sq) :
  RetS Tryz.prog 46 #[.pointer (some ⟨bm, 0, none⟩), .int .i64 sq] G0 w0 (.bool ((committedR m sq))) := by
 have hC := Cx.refl hw
 have hB : Bxs G0 w0 w0.heap.size [] := Bxs.nil _ _ _
 obtain ⟨OKm, v2, v3, hb4, hn5, hl6⟩ := hm.look hOm
 obtain ⟨A8, cap9, rfl⟩ := hn5.form
 obtain ⟨A10, cap11, rfl⟩ := hl6.form
 have hF7 := hb4.row
 refine callsOf Tryz.func46 rfl _ Tryz.ntmps46 rfl _ (argsCons (argsCons argsNil (t := 0) rfl) (t := 1) rfl) ?_; intro Q0 hQ
 refine wcSeq <| wcRegion <| A_ rfl ?_
 refine wlThen (wcSeq (wcSeq (wcRegion ?_)))
 refine M_ rfl <| M_ rfl ?_
 refine wlCallS hC hB rfl co45 rfl rfl (rPrep_ret _ _ hC.holds bm Om m hOm hm sq hsq) ?_; intro w hk hC hB
 refine V_ (opNot rfl) <| wlThen ?_
 cases h12 : ((preparedR m sq))
 ·
  refine wcCondT rfl <| wcSeq <| wcRegion <| A_ rfl <| wlThen <| wcRet ?_
  exact r1_ hQ rfl rfl (endS hC hw (by simp only [committedR, h12, ta_]))
 ·
  have hin := prR_in h12
  refine wcCondF rfl <| wcSkip <| wcOf <| wcSeq ?_
  refine wcDrawS 15 [0, 1, 3, 7, 0, 0, 32, 96, 224, 496, 1008, 2047, 4095, 0, 16383] fmix (by kernel_rfl) (by kernel_rfl) rfl hC hB ?_; intro w hC hB
  refine D_ 0 rfl rfl (fun _ => opMove rfl) <| D_ 1 rfl rfl (fun _ => opNilCheck rfl) <| D_ 2 rfl rfl (fun _ => (opFieldAddr rfl fo64_3)) <| E_ 3 rfl rfl (opLoadOne (v := (.slice A10 m.l.length cap11)) rfl (RowG.cell hC.holds hF7 (j := 4) rfl) one62) <| D_ 4 rfl rfl (fun _ => opMove rfl) <| D_ 5 rfl rfl (fun _ => opMove rfl) <| D_ 6 rfl rfl (fun _ => opNilCheck rfl) <| D_ 7 rfl rfl (fun _ => (opFieldAddr rfl fo64_2)) <| E_ 8 rfl rfl (opLoadOne (v := (.int .i64 m.low)) rfl (RowG.cell hC.holds hF7 (j := 3) rfl) one3) <| D_ 9 rfl rfl (fun _ => opSub rfl rfl) <| D_ 10 rfl rfl (fun _ => (OpVal.cast (v' := .int .i64 (((ixR m sq) : Nat) : Int)) (opSub rfl rfl) (congrArg (Value.int .i64) (ixR_eq OKm hsq hin)))) ?_
  obtain ⟨x13, hx14⟩ : ∃ y_, m.l[(ixR m sq)]? = some y_ := ⟨_, List.getElem?_eq_getElem (ixR_lt OKm hsq hin)⟩
  obtain ⟨b15, o16, row17, hA20, hr18, hi19⟩ := hl6.elem hx14; subst hA20
  obtain ⟨v21, v23, v25, rfl, hs22, hs24, hs26⟩ := RSlot.opIs hi19
  obtain ⟨A27, cap28, rfl⟩ := hs22.form
  obtain ⟨A29, cap30, rfl⟩ := hs24.form
  obtain ⟨A31, cap32, rfl⟩ := hs26.form
  refine D_ 11 rfl rfl (fun _ => (opIndexAddr rfl rfl slo62 (ixR_lt OKm hsq hin))) <| E_ 12 rfl rfl (opLoadRow (cs := ((.bool x13.last.has) :: ((.int .i64 x13.last.view) :: (x13.last.dig.cells ++ ((.slice A27 x13.pre.length cap28) :: ((.slice A29 x13.com.length cap30) :: ((.bool x13.p.has) :: ((.int .i64 x13.p.view) :: (x13.p.dig.cells ++ ((.slice A31 x13.q.length cap32) :: [])))))))))) rfl (RowG.range hC.holds hr18) row69 (by simp [cl_])) ?_
  refine wdAll [13] (by kernel_rfl) rfl ⟨wd1 rfl ?_, trivial⟩
  intro hGd
  refine wlAlloc hC hB zero69 rfl ?_; intro b33 w hk hC hB
  refine wdNext hGd rfl (kpKeep rfl (kpKeep rfl (kpKeep rfl kpNil))) (Tk.cons (p := (_, fun w => OpVal _ _ _ w _ _)) (opLoadRow (cs := ((.bool x13.last.has) :: ((.int .i64 x13.last.view) :: (x13.last.dig.cells ++ ((.slice A27 x13.pre.length cap28) :: ((.slice A29 x13.com.length cap30) :: ((.bool x13.p.has) :: ((.int .i64 x13.p.view) :: (x13.p.dig.cells ++ ((.slice A31 x13.q.length cap32) :: [])))))))))) rfl (RowG.range hC.holds hr18) row69 (by simp [cl_])) (Tk.cons (p := (_, fun w => OpVal _ _ _ w _ _)) (opLoadOne (v := (.int .i64 m.low)) rfl (RowG.cell hC.holds hF7 (j := 3) rfl) one3) (Tk.cons (p := (_, fun w => OpVal _ _ _ w _ _)) (opLoadOne (v := (.slice (some ⟨b15, o16, none⟩) m.l.length cap11)) rfl (RowG.cell hC.holds hF7 (j := 4) rfl) one62) (Tk.nil _)))) ?_
  refine wdAll [14] (by kernel_rfl) rfl ⟨wd1 rfl ?_, trivial⟩
  intro hGd
  refine wlStore 0 (vs := ((.bool x13.last.has) :: ((.int .i64 x13.last.view) :: (x13.last.dig.cells ++ ((.slice A27 x13.pre.length cap28) :: ((.slice A29 x13.com.length cap30) :: ((.bool x13.p.has) :: ((.int .i64 x13.p.view) :: (x13.p.dig.cells ++ ((.slice A31 x13.q.length cap32) :: [])))))))))) (cs := ((.bool false) :: ((.int .i64 0) :: (Dig.zero.cells ++ ((.slice none 0 0) :: ((.slice none 0 0) :: ((.bool false) :: ((.int .i64 0) :: (Dig.zero.cells ++ ((.slice none 0 0) :: [])))))))))) (cs' := ((.bool x13.last.has) :: ((.int .i64 x13.last.view) :: (x13.last.dig.cells ++ ((.slice A27 x13.pre.length cap28) :: ((.slice A29 x13.com.length cap30) :: ((.bool x13.p.has) :: ((.int .i64 x13.p.view) :: (x13.p.dig.cells ++ ((.slice A31 x13.q.length cap32) :: [])))))))))) hC hB rfl rfl rfl sz69 rfl (by simp [cl_]) (by simp [cl_, Value.oneCell']) (by simp [cl_]) (by simp [cl_]) rfl ?_; intro w hC hB
  refine wdNext hGd rfl (kpDrop rfl (kpDrop rfl (kpDrop rfl kpNil))) (Tk.nil _) ?_
  refine wdDone (by kernel_rfl) <| wcOf <| wcSeq ?_
  refine wcDrawS 17 [0, 0, 2, 0, 8, 24, 0, 64, 192, 511, 0, 1024, 3072, 7168, 16383, 32767, 65535] fmix (by kernel_rfl) (by kernel_rfl) rfl hC hB ?_; intro w hC hB
  refine D_ 0 rfl rfl (fun _ => opMove rfl) <| D_ 1 rfl rfl (fun _ => (opFieldAddr rfl fo69_2)) <| E_ 2 rfl rfl (opLoadOne (v := (.slice A29 x13.com.length cap30)) rfl (hB.cell (i := 0) rfl (by simp [cl_])) one67) <| D_ 3 rfl rfl (fun _ => (opFieldAddr rfl fo69_0)) <| D_ 4 rfl rfl (fun _ => (opFieldAddr rfl fo66_1)) <| E_ 5 rfl rfl (opLoadOne (v := (.int .i64 x13.last.view)) rfl (hB.cell (i := 0) rfl (by simp [cl_])) one3) <| D_ 6 rfl rfl (fun _ => (opFieldAddr rfl fo69_0)) <| D_ 7 rfl rfl (fun _ => (opFieldAddr rfl fo66_2)) <| E_ 8 rfl rfl (opLoadRow (cs := x13.last.dig.cells) rfl (hB.range (i := 0) (m := 32) rfl (by simp [cl_])) row37 (by simp [cl_])) <| D_ 10 rfl rfl (fun _ => opMove rfl) <| D_ 11 rfl rfl (fun _ => opNilCheck rfl) <| D_ 12 rfl rfl (fun _ => (opFieldAddr rfl fo64_0)) <| E_ 13 rfl rfl (opLoadRow (cs := [(.int .i64 m.crew.faults), (.slice A8 m.crew.nodes.length cap9)]) rfl (RowG.range hC.holds (hF7.part (i := 0) (m := 2) rfl)) row24 rfl) ?_
  refine wdAll [9] (by kernel_rfl) rfl ⟨wd1 rfl ?_, trivial⟩
  intro hGd
  refine wlCallS hC hB rfl co77 rfl rfl (count_ret _ _ hC.holds bm Om m hOm hm _ x13.com hs24 x13.last.view x13.last.dig 0 (OKm.com _ _ hx14)) ?_; intro w hk hC hB
  refine wdNext hGd rfl (kpKeep rfl (kpDrop rfl (kpDrop rfl (kpDrop rfl kpNil)))) (Tk.cons (p := (_, fun w => OpVal _ _ _ w _ _)) (opLoadRow (cs := [(.int .i64 m.crew.faults), (.slice A8 m.crew.nodes.length cap9)]) rfl (RowG.range hC.holds (hF7.part (i := 0) (m := 2) rfl)) row24 rfl) (Tk.nil _)) ?_
  refine wdAll [14] (by kernel_rfl) rfl ⟨wd1 rfl ?_, trivial⟩
  intro hGd
  refine wlCallS hC hB rfl co78 rfl rfl (rmost_ret _ _ hC.holds _ m.crew (Crew.mkIs (x := m.crew) hn5)) ?_; intro w hk hC hB
  refine wdNext hGd rfl (kpDrop rfl kpNil) (Tk.nil _) ?_
  refine D_ 15 rfl rfl (fun _ => opGeq rfl rfl) <| D_ 16 rfl rfl (fun _ => opAssign rfl) <| wdDone (by kernel_rfl) <| wcOf <| wcRet ?_
  exact r1_ hQ rfl rfl (endS hC hw (by simp only [committedR, List.getD_eq_getElem?_getD, hx14, Option.getD_some, h12, hin, ta_]))

theorem rat_ret (G0 : Gh) (w0 : World) (hw : Holds G0 w0) (bm : Nat) (Om : List (Nat × Obj)) (m : RfS) (hOm : HasL G0 Om) (hm : RfO G0 bm Om m) (sq : Int) (hsq : I6 sq) :
  RetS Tryz.prog 44 #[.pointer (some ⟨bm, 0, none⟩), .int .i64 sq] G0 w0 (.tuple #[(.agg ((atR m sq).1).cells.toArray), (.bool ((atR m sq).2))]) := by
 have hC := Cx.refl hw
 have hB : Bxs G0 w0 w0.heap.size [] := Bxs.nil _ _ _
 obtain ⟨OKm, v2, v3, hb4, hn5, hl6⟩ := hm.look hOm
 obtain ⟨A8, cap9, rfl⟩ := hn5.form
 obtain ⟨A10, cap11, rfl⟩ := hl6.form
 have hF7 := hb4.row
 refine callsOf Tryz.func44 rfl _ Tryz.ntmps44 rfl _ (argsCons (argsCons argsNil (t := 0) rfl) (t := 1) rfl) ?_; intro Q0 hQ
 refine wcSeq <| wcRegion ?_
 refine wlAlloc hC hB zero44 rfl ?_; intro b12 w hk hC hB
 refine A_ rfl ?_
 refine wlThen (wcSeq (wcSeq ?_))
 refine wcDrawS 22 [0, 0, 3, 7, 15, 31, 63, 127, 255, 31, 31, 1055, 3103, 7199, 15903, 32287, 65535, 131071, 262143, 524287, 1048575, 2097151] fmix (by kernel_rfl) (by kernel_rfl) rfl hC hB ?_; intro w hC hB
 refine D_ 0 rfl rfl (fun _ => opMove rfl) <| D_ 1 rfl rfl (fun _ => opMove rfl) ?_
 refine wdAll [2] (by kernel_rfl) rfl ⟨wd1 rfl ?_, trivial⟩
 intro hGd
 refine wlCallS hC hB rfl co69 rfl rfl (inR_ret _ _ hC.holds bm Om m hOm hm sq) ?_; intro w hk hC hB
 refine wdNext hGd rfl kpNil (Tk.nil _) ?_
 refine D_ 3 rfl rfl (fun _ => opNot rfl) <| D_ 4 rfl rfl (fun _ => opMove rfl) ?_
 cases h13 : ((inR m sq))
 ·
  refine O_ 5 rfl rfl rfl rfl rfl <| O_ 6 rfl rfl rfl rfl rfl <| O_ 7 rfl rfl rfl rfl rfl <| O_ 8 rfl rfl rfl rfl rfl <| O_ 9 rfl rfl rfl rfl rfl <| O_ 10 rfl rfl rfl rfl rfl <| O_ 11 rfl rfl rfl rfl rfl <| O_ 12 rfl rfl rfl rfl rfl <| O_ 13 rfl rfl rfl rfl rfl <| O_ 14 rfl rfl rfl rfl rfl <| O_ 15 rfl rfl rfl rfl rfl <| O_ 16 rfl rfl rfl rfl rfl <| O_ 17 rfl rfl rfl rfl rfl <| O_ 18 rfl rfl rfl rfl rfl <| O_ 19 rfl rfl rfl rfl rfl <| O_ 20 rfl rfl rfl rfl rfl <| D_ 21 rfl rfl (fun _ => opPickT rfl rfl) <| wdDone (by kernel_rfl) <| wcOf <| wcCondT rfl ?_
  refine wcSeq <| wcRegion <| V_ (B_ (ps := []) (cs := ((.int .i64 0) :: (Dig.zero.cells ++ ((.int .i64 0) :: [])))) so44 zero44 rfl rfl) ?_
  refine wlStore 0 (vs := ((.int .i64 0) :: (Dig.zero.cells ++ ((.int .i64 0) :: [])))) (cs := ((.int .i64 0) :: (Dig.zero.cells ++ ((.int .i64 0) :: [])))) (cs' := ((.int .i64 0) :: (Dig.zero.cells ++ ((.int .i64 0) :: [])))) hC hB rfl rfl rfl sz44 rfl (by simp [cl_]) (by simp [cl_, Value.oneCell']) (by simp [cl_]) (by simp [cl_]) rfl ?_; intro w hC hB
  refine A_ rfl <| wlThen <| wcRet ?_
  exact fun ac_ ha => hQ _ _ _ (results2 ha rfl ⟨_, _, ((.int .i64 0) :: (Dig.zero.cells ++ ((.int .i64 0) :: []))), rfl, row44, (by simp [cl_]), hB.range (i := 0) (m := 34) rfl (by simp [cl_]), rfl⟩ rfl) ha.df (endS hC hw (by simp only [atR, h13, ta_, Stand.cells]))
 ·
  refine DG_ 5 rfl rfl rfl rfl (fun _ => opMove rfl) <| DG_ 6 rfl rfl rfl rfl (fun _ => opNilCheck rfl) <| DG_ 7 rfl rfl rfl rfl (fun _ => (opFieldAddr rfl fo64_3)) <| EG_ 8 rfl rfl rfl rfl (opLoadOne (v := (.slice A10 m.l.length cap11)) rfl (RowG.cell hC.holds hF7 (j := 4) rfl) one62) <| DG_ 9 rfl rfl rfl rfl (fun _ => opMove rfl) <| DG_ 10 rfl rfl rfl rfl (fun _ => opMove rfl) <| DG_ 11 rfl rfl rfl rfl (fun _ => opNilCheck rfl) <| DG_ 12 rfl rfl rfl rfl (fun _ => (opFieldAddr rfl fo64_2)) <| EG_ 13 rfl rfl rfl rfl (opLoadOne (v := (.int .i64 m.low)) rfl (RowG.cell hC.holds hF7 (j := 3) rfl) one3) <| DG_ 14 rfl rfl rfl rfl (fun _ => opSub rfl rfl) <| DG_ 15 rfl rfl rfl rfl (fun _ => (OpVal.cast (v' := .int .i64 (((ixR m sq) : Nat) : Int)) (opSub rfl rfl) (congrArg (Value.int .i64) (ixR_eq OKm hsq h13)))) ?_
  obtain ⟨x14, hx15⟩ : ∃ y_, m.l[(ixR m sq)]? = some y_ := ⟨_, List.getElem?_eq_getElem (ixR_lt OKm hsq h13)⟩
  obtain ⟨b16, o17, row18, hA21, hr19, hi20⟩ := hl6.elem hx15; subst hA21
  obtain ⟨v22, v24, v26, rfl, hs23, hs25, hs27⟩ := RSlot.opIs hi20
  obtain ⟨A28, cap29, rfl⟩ := hs23.form
  obtain ⟨A30, cap31, rfl⟩ := hs25.form
  obtain ⟨A32, cap33, rfl⟩ := hs27.form
  refine DG_ 16 rfl rfl rfl rfl (fun _ => (opIndexAddr rfl rfl slo62 (ixR_lt OKm hsq h13))) <| DG_ 17 rfl rfl rfl rfl (fun _ => (opFieldAddr rfl fo69_0)) <| DG_ 18 rfl rfl rfl rfl (fun _ => (opFieldAddr rfl fo66_0)) <| EG_ 19 rfl rfl rfl rfl (opLoadOne (v := (.bool x14.last.has)) rfl (RowG.cell0 hC.holds hr19 (by simp [cl_])) one4) <| DG_ 20 rfl rfl rfl rfl (fun _ => opNot rfl) <| D_ 21 rfl rfl (fun _ => opPickF rfl rfl) <| wdDone (by kernel_rfl) <| wcOf ?_
  cases h34 : x14.last.has
  ·
   refine wcCondT rfl <| wcSeq <| wcRegion <| V_ (B_ (ps := []) (cs := ((.int .i64 0) :: (Dig.zero.cells ++ ((.int .i64 0) :: [])))) so44 zero44 rfl rfl) ?_
   refine wlStore 0 (vs := ((.int .i64 0) :: (Dig.zero.cells ++ ((.int .i64 0) :: [])))) (cs := ((.int .i64 0) :: (Dig.zero.cells ++ ((.int .i64 0) :: [])))) (cs' := ((.int .i64 0) :: (Dig.zero.cells ++ ((.int .i64 0) :: [])))) hC hB rfl rfl rfl sz44 rfl (by simp [cl_]) (by simp [cl_, Value.oneCell']) (by simp [cl_]) (by simp [cl_]) rfl ?_; intro w hC hB
   refine A_ rfl <| wlThen <| wcRet ?_
   exact fun ac_ ha => hQ _ _ _ (results2 ha rfl ⟨_, _, ((.int .i64 0) :: (Dig.zero.cells ++ ((.int .i64 0) :: []))), rfl, row44, (by simp [cl_]), hB.range (i := 0) (m := 34) rfl (by simp [cl_]), rfl⟩ rfl) ha.df (endS hC hw (by simp only [atR, List.getD_eq_getElem?_getD, hx15, Option.getD_some, h13, h34, ta_, Stand.cells]))
  ·
   refine wcCondF rfl <| wcSkip <| wcOf <| wcSeq ?_
   refine wcDrawS 16 [0, 1, 3, 7, 0, 0, 32, 96, 224, 496, 1008, 2047, 4095, 8191, 0, 32767] fmix (by kernel_rfl) (by kernel_rfl) rfl hC hB ?_; intro w hC hB
   refine D_ 0 rfl rfl (fun _ => opMove rfl) <| D_ 1 rfl rfl (fun _ => opNilCheck rfl) <| D_ 2 rfl rfl (fun _ => (opFieldAddr rfl fo64_3)) <| E_ 3 rfl rfl (opLoadOne (v := (.slice (some ⟨b16, o17, none⟩) m.l.length cap11)) rfl (RowG.cell hC.holds hF7 (j := 4) rfl) one62) <| D_ 4 rfl rfl (fun _ => opMove rfl) <| D_ 5 rfl rfl (fun _ => opMove rfl) <| D_ 6 rfl rfl (fun _ => opNilCheck rfl) <| D_ 7 rfl rfl (fun _ => (opFieldAddr rfl fo64_2)) <| E_ 8 rfl rfl (opLoadOne (v := (.int .i64 m.low)) rfl (RowG.cell hC.holds hF7 (j := 3) rfl) one3) <| D_ 9 rfl rfl (fun _ => opSub rfl rfl) <| D_ 10 rfl rfl (fun _ => (OpVal.cast (v' := .int .i64 (((ixR m sq) : Nat) : Int)) (opSub rfl rfl) (congrArg (Value.int .i64) (ixR_eq OKm hsq h13)))) <| D_ 11 rfl rfl (fun _ => (opIndexAddr rfl rfl slo62 (ixR_lt OKm hsq h13))) <| D_ 12 rfl rfl (fun _ => (opFieldAddr rfl fo69_0)) <| E_ 13 rfl rfl (opLoadRow (cs := x14.last.cells) rfl (RowG.range hC.holds (hr19.part (i := 0) (m := 34) (by simp [cl_]))) row66 (by simp [cl_])) ?_
   refine wdAll [14] (by kernel_rfl) rfl ⟨wd1 rfl ?_, trivial⟩
   intro hGd
   refine wlAlloc hC hB zero66 rfl ?_; intro b35 w hk hC hB
   refine wdNext hGd rfl (kpKeep rfl (kpKeep rfl (kpKeep rfl kpNil))) (Tk.cons (p := (_, fun w => OpVal _ _ _ w _ _)) (opLoadRow (cs := x14.last.cells) rfl (RowG.range hC.holds (hr19.part (i := 0) (m := 34) (by simp [cl_]))) row66 (by simp [cl_])) (Tk.cons (p := (_, fun w => OpVal _ _ _ w _ _)) (opLoadOne (v := (.int .i64 m.low)) rfl (RowG.cell hC.holds hF7 (j := 3) rfl) one3) (Tk.cons (p := (_, fun w => OpVal _ _ _ w _ _)) (opLoadOne (v := (.slice (some ⟨b16, o17, none⟩) m.l.length cap11)) rfl (RowG.cell hC.holds hF7 (j := 4) rfl) one62) (Tk.nil _)))) ?_
   refine wdAll [15] (by kernel_rfl) rfl ⟨wd1 rfl ?_, trivial⟩
   intro hGd
   refine wlStore 0 (vs := x14.last.cells) (cs := ((.bool false) :: ((.int .i64 0) :: (Dig.zero.cells ++ [])))) (cs' := x14.last.cells) hC hB rfl rfl rfl sz66 rfl (by simp [cl_]) (by simp [cl_, Value.oneCell']) (by simp [cl_]) (by simp [cl_]) rfl ?_; intro w hC hB
   refine wdNext hGd rfl (kpDrop rfl (kpDrop rfl (kpDrop rfl kpNil))) (Tk.nil _) ?_
   refine wdDone (by kernel_rfl) <| wcOf <| wcSeq <| wcRegion <| M_ rfl <| V_ (opFieldAddr rfl fo66_2) <| V_ (opLoadRow (cs := x14.last.dig.cells) rfl (hB.range (i := 0) (m := 32) rfl (by simp [cl_])) row37 (by simp [cl_])) <| V_ (opFieldAddr rfl fo66_1) <| V_ (opLoadOne (v := (.int .i64 x14.last.view)) rfl (hB.cell (i := 0) rfl (by simp [cl_])) one3) <| V_ (B_ (ps := [(0, .tmp 44), (1, .tmp 46), (2, .tmp 48)]) (cs := ((.int .i64 sq) :: (x14.last.dig.cells ++ ((.int .i64 x14.last.view) :: [])))) so44 zero44 rfl rfl) ?_
   refine wlStore 1 (vs := ((.int .i64 sq) :: (x14.last.dig.cells ++ ((.int .i64 x14.last.view) :: [])))) (cs := ((.int .i64 0) :: (Dig.zero.cells ++ ((.int .i64 0) :: [])))) (cs' := ((.int .i64 sq) :: (x14.last.dig.cells ++ ((.int .i64 x14.last.view) :: [])))) hC hB rfl rfl rfl sz44 rfl (by simp [cl_]) (by simp [cl_, Value.oneCell']) (by simp [cl_]) (by simp [cl_]) rfl ?_; intro w hC hB
   refine A_ rfl <| wlThen <| wcRet ?_
   exact fun ac_ ha => hQ _ _ _ (results2 ha rfl ⟨_, _, ((.int .i64 sq) :: (x14.last.dig.cells ++ ((.int .i64 x14.last.view) :: []))), rfl, row44, (by simp [cl_]), hB.range (i := 1) (m := 34) rfl (by simp [cl_]), rfl⟩ rfl) ha.df (endS hC hw (by simp only [atR, List.getD_eq_getElem?_getD, hx15, Option.getD_some, h13, h34, ta_, Stand.cells]))

theorem rp_ret (G0 : Gh) (w0 : World) (hw : Holds G0 w0) (bm : Nat) (Om : List (Nat × Obj)) (m : RfS) (hOm : HasL G0 Om) (hm : RfO G0 bm Om m) :
  RetO Tryz.prog 42 #[.pointer (some ⟨bm, 0, none⟩)] G0 w0 (fun G o v => ∃ A cap, v = (.slice A ((pR m 8)).length cap) ∧ Ow G o 44 (.slice A ((pR m 8)).length cap) ((pR m 8))) := by
 have hC := Cx.refl hw
 have hB : Bxs G0 w0 w0.heap.size [] := Bxs.nil _ _ _
 obtain ⟨OKm, v2, v3, hb4, hn5, hl6⟩ := hm.look hOm
 obtain ⟨A8, cap9, rfl⟩ := hn5.form
 obtain ⟨A10, cap11, rfl⟩ := hl6.form
 have hF7 := hb4.row
 refine callsOf Tryz.func42 rfl _ Tryz.ntmps42 rfl _ (argsCons argsNil (t := 0) rfl) ?_; intro Q0 hQ
 refine wcSeq <| wcRegion <| A_ rfl ?_
 refine wlThen (wcSeq (wcRegion ?_))
 refine A_ rfl ?_
 refine wlThen (wcSeq (wcSeq (wcRegion ?_)))
 refine A_ rfl <| wlThen <| wcBlock ?_
 refine WC.sub (wrInd (ι := Nat × (Option Addr) × Nat × (Option Bx) × (List Stand)) (fun i => match i with | (k, outA, outC, outO, out) => 8 - k) (fun i G w => match i with | (k, outA, outC, outO, out) => Cx w0 G0 G w ∧ Bxs G w w0.heap.size ([] ++ (Option.toList outO ++ [])) ∧ Sl G (.slice A8 m.crew.nodes.length cap9) m.crew.nodes ∧ Sl G (.slice A10 m.l.length cap11) m.l ∧ HasL G Om ∧ RfO G bm Om m ∧ Ow G outO 44 (.slice outA out.length outC) out ∧ RowG G bm 0 [(.int .i64 m.crew.faults), (.slice A8 m.crew.nodes.length cap9), (.int .i64 m.self), (.int .i64 m.low), (.slice A10 m.l.length cap11)] ∧ k ≤ 8 ∧ out = pR m k) (fun i => match i with | (k, outA, outC, outO, out) => (((Env.nil.put 0 (.pointer (some ⟨bm, 0, none⟩))).put 3 (.slice outA out.length outC)).put 4 (.int .i64 (((k : Nat) : Int))))) ?_ (0, none, 0, none, []) _ _ ⟨hC, hB, hn5, hl6, hOm, hm, (Ow.nil_ _ 44), hF7, (Nat.zero_le _), rfl⟩) (fun _ ha => (((ha.start.c ha 0 rfl).c ha 3 rfl).c ha 4 rfl))
 rintro ⟨k, outA, outC, outO, out⟩ G w N0 IH0 ⟨hC, hB, hn5, hl6, hOm, hm, hOout, hF7, hk8, hI⟩
 refine wcSeq (wcSeq (wcRegion ?_))
 refine M_ rfl <| V_ (opLssN (b := 8) rfl rfl) <| wlThen ?_
 cases h12 : decide (k < 8)
 ·
  refine wcCondF rfl <| wcExit <| wcOf <| wcSeq <| wcRegion <| M_ rfl <| A_ rfl <| wlThen <| wcRet ?_
  exact r1_ hQ rfl rfl (endO (bl := []) (o := outO) (r := []) hC hB (by have e : out = pR m 8 := (by rw [hI, show k = 8 from by have q := of_decide_eq_false h12; omega]); rw [← e]; exact ⟨_, _, rfl, hOout⟩))
 ·
  refine wcCondT rfl <| wcSkip <| wcOf <| wcSeq ?_
  refine wcBlock (wcSeq (wcRegion ?_))
  refine M_ rfl <| V_ (opNilCheck rfl) <| V_ (opFieldAddr rfl fo64_3) <| V_ (opLoadOne (v := (.slice A10 m.l.length cap11)) rfl (RowG.cell hC.holds hF7 (j := 4) rfl) one62) <| M_ rfl ?_
  obtain ⟨x13, hx14⟩ : ∃ y_, m.l[k]? = some y_ := ⟨_, List.getElem?_eq_getElem (by have q := of_decide_eq_true h12; have q2 := OKm.len; omega)⟩
  obtain ⟨b15, o16, row17, hA20, hr18, hi19⟩ := hl6.elem hx14; subst hA20
  obtain ⟨v21, v23, v25, rfl, hs22, hs24, hs26⟩ := RSlot.opIs hi19
  obtain ⟨A27, cap28, rfl⟩ := hs22.form
  obtain ⟨A29, cap30, rfl⟩ := hs24.form
  obtain ⟨A31, cap32, rfl⟩ := hs26.form
  refine V_ (opIndexAddr rfl rfl slo62 (by have q := of_decide_eq_true h12; have q2 := OKm.len; omega)) <| V_ (opFieldAddr rfl fo69_3) <| V_ (opLoadRow (cs := x13.p.cells) rfl (RowG.range hC.holds (hr18.part (i := 36) (m := 34) (by simp [cl_]))) row66 (by simp [cl_])) ?_
  refine wlAlloc hC hB zero66 rfl ?_; intro b33 w hk hC hB
  refine wlStore 0 (vs := x13.p.cells) (cs := ((.bool false) :: ((.int .i64 0) :: (Dig.zero.cells ++ [])))) (cs' := x13.p.cells) hC hB rfl rfl rfl sz66 rfl (by simp [cl_]) (by simp [cl_, Value.oneCell']) (by simp [cl_]) (by simp [cl_]) rfl ?_; intro w hC hB
  refine wlThen (wcSeq (wcRegion ?_))
  refine V_ (opFieldAddr rfl fo66_0) <| V_ (opLoadOne (v := (.bool x13.p.has)) rfl (hB.cell (i := 0) rfl (by simp [cl_])) one4) <| wlThen ?_
  cases h34 : x13.p.has
  ·
   refine wcCondF rfl <| wcSkip <| wcOf <| wcRegion <| M_ rfl <| V_ (opIncr rfl rfl (by have q := of_decide_eq_true h12; omega)) <| A_ rfl <| wlRound ?_
   exact (IH0 (k + 1, outA, outC, outO, out) _ _ ⟨hC, hB.tail, hn5, hl6, hOm, hm, hOout, hF7, (of_decide_eq_true h12), (by rw [hI]; simp only [pR, List.getD_eq_getElem?_getD, hx14, Option.getD_some, h12, h34, ta_, List.append_nil])⟩ (by have q := of_decide_eq_true h12; show 8 - (k + 1) < 8 - k; omega)).sub (fun _ ha => (((ha.start.c ha 0 rfl).c ha 3 rfl).c ha 4 rfl))
  ·
   refine wcCondT rfl ?_
   refine wcDrawS 16 [0, 0, 2, 6, 14, 30, 0, 126, 0, 256, 0, 1024, 4094, 8190, 16383, 32767] fmix (by kernel_rfl) (by kernel_rfl) rfl hC hB ?_; intro w hC hB
   refine D_ 0 rfl rfl (fun _ => opMove rfl) <| D_ 1 rfl rfl (fun _ => opMove rfl) <| D_ 2 rfl rfl (fun _ => opNilCheck rfl) <| D_ 3 rfl rfl (fun _ => (opFieldAddr rfl fo64_2)) <| E_ 4 rfl rfl (opLoadOne (v := (.int .i64 m.low)) rfl (RowG.cell hC.holds hF7 (j := 3) rfl) one3) <| D_ 5 rfl rfl (fun _ => opAdd rfl rfl) <| D_ 6 rfl rfl (fun _ => opMove rfl) <| D_ 7 rfl rfl (fun _ => opAdd rfl rfl) <| D_ 8 rfl rfl (fun _ => (opFieldAddr rfl fo66_2)) <| E_ 9 rfl rfl (opLoadRow (cs := x13.p.dig.cells) rfl (hB.range (i := 0) (m := 32) rfl (by simp [cl_])) row37 (by simp [cl_])) <| D_ 10 rfl rfl (fun _ => (opFieldAddr rfl fo66_1)) <| E_ 11 rfl rfl (opLoadOne (v := (.int .i64 x13.p.view)) rfl (hB.cell (i := 0) rfl (by simp [cl_])) one3) <| D_ 12 rfl rfl (fun _ => (B_ (ps := [(0, .tmp 27), (1, .tmp 29), (2, .tmp 31)]) (cs := ((.int .i64 (IntKind.wrap .i64 (IntKind.wrap .i64 (m.low + 1) + ((k : Nat) : Int)))) :: (x13.p.dig.cells ++ ((.int .i64 x13.p.view) :: [])))) so44 zero44 rfl rfl)) ?_
   refine wdAll [13] (by kernel_rfl) rfl ⟨wd1 rfl ?_, trivial⟩
   intro hGd
   refine wlBuildSlice (α := Stand) (ps := [(0, .tmp 32)]) (xs := [(Stand.mk (IntKind.wrap .i64 (IntKind.wrap .i64 (m.low + 1) + ((k : Nat) : Int))) x13.p.dig x13.p.view)]) (rows := [((.int .i64 (IntKind.wrap .i64 (IntKind.wrap .i64 (m.low + 1) + ((k : Nat) : Int)))) :: (x13.p.dig.cells ++ ((.int .i64 x13.p.view) :: [])))]) elo38 rfl rfl hC hB rfl rfl rfl ⟨rfl, trivial⟩ rfl ?_; intro b35 G w hk hC hB hs36
   replace hn5 := hn5.mono hk.gle; replace hl6 := hl6.mono hk.gle; replace hOm := hOm.mono hk.gle; replace hm := hm.mono hk.gle; replace hOout := hOout.mono hk.gle
   replace hF7 := hF7.mono hk.gle
   refine wdNext hGd rfl (kpDrop rfl (kpDrop rfl (kpDrop rfl kpNil))) (Tk.nil _) ?_
   refine wdAll [14] (by kernel_rfl) rfl ⟨wd1 rfl ?_, trivial⟩
   intro hGd
   refine wlAppend (α := Stand) (bl := [(b33, 66, x13.p.cells)]) (o := outO) (r := []) elo38 hC hB rfl rfl hOout hs36 (by have q := pR_len m k; rw [← hI] at q; simp; omega) rfl rfl ?_; intro A37 cap38 o39 w hC hB hO40
   refine wdNext hGd rfl kpNil (Tk.nil _) ?_
   refine D_ 15 rfl rfl (fun _ => opAssign rfl) <| wdDone (by kernel_rfl) <| wcOf <| wcRegion <| M_ rfl <| V_ (opIncr rfl rfl (by have q := of_decide_eq_true h12; omega)) <| A_ rfl <| wlRound ?_
   exact (IH0 (k + 1, A37, cap38, o39, (out ++ [(Stand.mk (IntKind.wrap .i64 (IntKind.wrap .i64 (m.low + 1) + ((k : Nat) : Int))) x13.p.dig x13.p.view)])) _ _ ⟨hC, hB.tail, hn5, hl6, hOm, hm, hO40, hF7, (of_decide_eq_true h12), (by rw [hI]; simp only [pR, List.getD_eq_getElem?_getD, hx14, Option.getD_some, h12, h34, ta_, List.append_nil])⟩ (by have q := of_decide_eq_true h12; show 8 - (k + 1) < 8 - k; omega)).sub (fun _ ha => (((ha.start.c ha 0 rfl).c ha 3 rfl).c ha 4 rfl))

theorem rq_ret (G0 : Gh) (w0 : World) (hw : Holds G0 w0) (bm : Nat) (Om : List (Nat × Obj)) (m : RfS) (hOm : HasL G0 Om) (hm : RfO G0 bm Om m) :
  RetO Tryz.prog 43 #[.pointer (some ⟨bm, 0, none⟩)] G0 w0 (fun G o v => ∃ A cap, v = (.slice A ((qR m 8)).length cap) ∧ Ow G o 44 (.slice A ((qR m 8)).length cap) ((qR m 8))) := by
 have hC := Cx.refl hw
 have hB : Bxs G0 w0 w0.heap.size [] := Bxs.nil _ _ _
 obtain ⟨OKm, v2, v3, hb4, hn5, hl6⟩ := hm.look hOm
 obtain ⟨A8, cap9, rfl⟩ := hn5.form
 obtain ⟨A10, cap11, rfl⟩ := hl6.form
 have hF7 := hb4.row
 refine callsOf Tryz.func43 rfl _ Tryz.ntmps43 rfl _ (argsCons argsNil (t := 0) rfl) ?_; intro Q0 hQ
 refine wcSeq <| wcRegion <| A_ rfl ?_
 refine wlThen (wcSeq (wcRegion ?_))
 refine A_ rfl ?_
 refine wlThen (wcSeq (wcSeq (wcRegion ?_)))
 refine A_ rfl <| wlThen <| wcBlock ?_
 refine WC.sub (wrInd (ι := Nat × (Option Addr) × Nat × (Option Bx) × (List Stand)) (fun i => match i with | (k, outA, outC, outO, out) => 8 - k) (fun i G w => match i with | (k, outA, outC, outO, out) => Cx w0 G0 G w ∧ Bxs G w w0.heap.size ([] ++ (Option.toList outO ++ [])) ∧ Sl G (.slice A8 m.crew.nodes.length cap9) m.crew.nodes ∧ Sl G (.slice A10 m.l.length cap11) m.l ∧ HasL G Om ∧ RfO G bm Om m ∧ Ow G outO 44 (.slice outA out.length outC) out ∧ RowG G bm 0 [(.int .i64 m.crew.faults), (.slice A8 m.crew.nodes.length cap9), (.int .i64 m.self), (.int .i64 m.low), (.slice A10 m.l.length cap11)] ∧ k ≤ 8 ∧ out = qR m k) (fun i => match i with | (k, outA, outC, outO, out) => (((Env.nil.put 0 (.pointer (some ⟨bm, 0, none⟩))).put 3 (.slice outA out.length outC)).put 4 (.int .i64 (((k : Nat) : Int))))) ?_ (0, none, 0, none, []) _ _ ⟨hC, hB, hn5, hl6, hOm, hm, (Ow.nil_ _ 44), hF7, (Nat.zero_le _), rfl⟩) (fun _ ha => (((ha.start.c ha 0 rfl).c ha 3 rfl).c ha 4 rfl))
 rintro ⟨k, outA, outC, outO, out⟩ G w N0 IH0 ⟨hC, hB, hn5, hl6, hOm, hm, hOout, hF7, hk8, hI⟩
 refine wcSeq (wcSeq (wcRegion ?_))
 refine M_ rfl <| V_ (opLssN (b := 8) rfl rfl) <| wlThen ?_
 cases h12 : decide (k < 8)
 ·
  refine wcCondF rfl <| wcExit <| wcOf <| wcSeq <| wcRegion <| M_ rfl <| A_ rfl <| wlThen <| wcRet ?_
  exact r1_ hQ rfl rfl (endO (bl := []) (o := outO) (r := []) hC hB (by have e : out = qR m 8 := (by rw [hI, show k = 8 from by have q := of_decide_eq_false h12; omega]); rw [← e]; exact ⟨_, _, rfl, hOout⟩))
 ·
  refine wcCondT rfl <| wcSkip <| wcOf <| wcSeq <| wcBlock <| wcRegion <| M_ rfl <| M_ rfl <| V_ (opNilCheck rfl) <| V_ (opFieldAddr rfl fo64_3) <| V_ (opLoadOne (v := (.slice A10 m.l.length cap11)) rfl (RowG.cell hC.holds hF7 (j := 4) rfl) one62) <| M_ rfl ?_
  obtain ⟨x13, hx14⟩ : ∃ y_, m.l[k]? = some y_ := ⟨_, List.getElem?_eq_getElem (by have q := of_decide_eq_true h12; have q2 := OKm.len; omega)⟩
  obtain ⟨b15, o16, row17, hA20, hr18, hi19⟩ := hl6.elem hx14; subst hA20
  obtain ⟨v21, v23, v25, rfl, hs22, hs24, hs26⟩ := RSlot.opIs hi19
  obtain ⟨A27, cap28, rfl⟩ := hs22.form
  obtain ⟨A29, cap30, rfl⟩ := hs24.form
  obtain ⟨A31, cap32, rfl⟩ := hs26.form
  refine V_ (opIndexAddr rfl rfl slo62 (by have q := of_decide_eq_true h12; have q2 := OKm.len; omega)) <| V_ (opFieldAddr rfl fo69_4) <| V_ (opLoadOne (v := (.slice A31 x13.q.length cap32)) rfl (RowG.cell hC.holds hr18 (j := 70) (by simp [cl_])) one38) ?_
  refine wlAppend (α := Stand) (bl := []) (o := outO) (r := []) elo38 hC hB rfl rfl hOout hs26 (by have q := qR_len OKm k; rw [← hI] at q; have q2 := OKm.q4 _ _ hx14; simp; omega) rfl rfl ?_; intro A33 cap34 o35 w hC hB hO36
  refine A_ rfl <| wlNil <| wcOf <| wcRegion <| M_ rfl <| V_ (opIncr rfl rfl (by have q := of_decide_eq_true h12; omega)) <| A_ rfl <| wlRound ?_
  exact (IH0 (k + 1, A33, cap34, o35, (out ++ x13.q)) _ _ ⟨hC, hB, hn5, hl6, hOm, hm, hO36, hF7, (of_decide_eq_true h12), (by rw [hI]; simp only [qR, List.getD_eq_getElem?_getD, hx14, Option.getD_some, h12, ta_, List.append_nil])⟩ (by have q := of_decide_eq_true h12; show 8 - (k + 1) < 8 - k; omega)).sub (fun _ ha => (((ha.start.c ha 0 rfl).c ha 3 rfl).c ha 4 rfl))

theorem with_ret (G0 : Gh) (w0 : World) (hw : Holds G0 w0) (vq : Value) (q : List Stand) (hq : Sl G0 vq q) (x : Stand) (hq4 : q.length ≤ 4) :
  RetO Tryz.prog 70 #[vq, .agg x.cells.toArray] G0 w0 (fun G o v => ∃ A cap, v = (.slice A ((withR q x)).length cap) ∧ Ow G o 44 (.slice A ((withR q x)).length cap) ((withR q x))) := by
 have hC := Cx.refl hw
 have hB : Bxs G0 w0 w0.heap.size [] := Bxs.nil _ _ _
 obtain ⟨A1, cap2, rfl⟩ := hq.form
 refine callsOf Tryz.func70 rfl _ Tryz.ntmps70 rfl _ (argsCons (argsCons argsNil (t := 0) rfl) (t := 1) rfl) ?_; intro Q0 hQ
 refine wcSeq <| wcRegion ?_
 refine wlBox (cs := x.cells) hC hB rfl rfl rfl ?_; intro b3 w hk hC hB
 refine A_ rfl ?_
 refine wlThen (wcSeq (wcRegion ?_))
 refine A_ rfl ?_
 refine wlThen (wcSeq (wcSeq (wcRegion ?_)))
 refine A_ rfl <| wlThen <| wcBlock ?_
 refine WC.sub (wrInd (ι := Nat × (Option Addr) × Nat × (Option Bx) × (List Stand)) (fun i => match i with | (k, lfA, lfC, lfO, lf) => q.length - k) (fun i G w => match i with | (k, lfA, lfC, lfO, lf) => Cx w0 G0 G w ∧ Bxs G w w0.heap.size ([(b3, 44, x.cells)] ++ (Option.toList lfO ++ [])) ∧ Sl G (.slice A1 q.length cap2) q ∧ Ow G lfO 44 (.slice lfA lf.length lfC) lf ∧ k ≤ q.length ∧ lf.length ≤ k ∧ lf = (q.take k).filter (fun y => !decide (y.dig = x.dig))) (fun i => match i with | (k, lfA, lfC, lfO, lf) => ((((Env.nil.put 0 (.slice A1 q.length cap2)).put 3 (.pointer (some ⟨b3, 0, none⟩))).put 5 (.slice lfA lf.length lfC)).put 6 (.int .i64 (((k : Nat) : Int))))) ?_ (0, none, 0, none, []) _ _ ⟨hC, hB, hq, (Ow.nil_ _ 44), (Nat.zero_le _), (Nat.zero_le _), rfl⟩) (fun _ ha => ((((ha.start.c ha 0 rfl).c ha 3 rfl).c ha 5 rfl).c ha 6 rfl))
 rintro ⟨k, lfA, lfC, lfO, lf⟩ G w N0 IH0 ⟨hC, hB, hq, hOlf, hkq, hLL, hI⟩
 refine wcSeq (wcSeq (wcRegion ?_))
 refine M_ rfl <| M_ rfl <| V_ (opLen rfl isl38) <| V_ (opLssN rfl rfl) <| wlThen ?_
 cases h4 : decide (k < q.length)
 ·
  refine wcCondF rfl <| wcExit <| wcOf ?_
  refine wcSeq (wcSeq (wcRegion ?_))
  refine M_ rfl <| V_ (opLen rfl isl38) <| V_ (opGeq rfl rfl) <| wlThen ?_
  cases h5 : decide (4 ≤ ((lf.length : Nat) : Int))
  ·
   refine wcCondF rfl <| wcSkip <| wcOf <| wcSeq <| wcRegion <| A_ rfl ?_
   refine wlThen (wcSeq (wcRegion ?_))
   refine A_ rfl ?_
   refine wlThen (wcSeq (wcSeq (wcRegion ?_)))
   refine A_ rfl <| wlThen <| wcBlock ?_
   obtain ⟨G, hg7, hC, hB, hs6⟩ := Ow.freeze' (bl := [(b3, 44, x.cells)]) (r := []) hOlf hC (Nat.le_refl _) hB (by have q0 := hLL; have q9 := hkq; have q8 := hq4; unfold maxL; omega)
   replace hq := hq.mono hg7
   refine WC.sub (wrInd (ι := Nat × Bool × (Option Addr) × Nat × (Option Bx) × (List Stand)) (fun i => match i with | (k2, put, outA, outC, outO, out) => lf.length - k2) (fun i G w => match i with | (k2, put, outA, outC, outO, out) => Cx w0 G0 G w ∧ Bxs G w w0.heap.size ([(b3, 44, x.cells)] ++ (Option.toList outO ++ [])) ∧ Sl G (.slice A1 q.length cap2) q ∧ Sl G (.slice lfA lf.length lfC) lf ∧ Ow G outO 44 (.slice outA out.length outC) out ∧ k2 ≤ lf.length ∧ (out ++ bif put then lf.drop k2 else insR x (lf.drop k2)) = insR x lf ∧ out.length = k2 + (bif put then 1 else 0)) (fun i => match i with | (k2, put, outA, outC, outO, out) => (((((Env.nil.put 3 (.pointer (some ⟨b3, 0, none⟩))).put 5 (.slice lfA lf.length lfC)).put 7 (.slice outA out.length outC)).put 8 (.bool put)).put 9 (.int .i64 (((k2 : Nat) : Int))))) ?_ (0, false, none, 0, none, []) _ _ ⟨hC, hB, hq, hs6, (Ow.nil_ _ 44), (Nat.zero_le _), rfl, rfl⟩) (fun _ ha => (((((ha.start.c ha 3 rfl).c ha 5 rfl).c ha 7 rfl).c ha 8 rfl).c ha 9 rfl))
   rintro ⟨k2, put, outA, outC, outO, out⟩ G w N1 IH1 ⟨hC, hB, hq, hs6, hOout, hK, hJ, hOL⟩
   refine wcSeq (wcSeq (wcRegion ?_))
   refine M_ rfl <| M_ rfl <| V_ (opLen rfl isl38) <| V_ (opLssN rfl rfl) <| wlThen ?_
   cases h8 : decide (k2 < lf.length)
   ·
    refine wcCondF rfl <| wcExit <| wcOf ?_
    refine wcSeq (wcSeq (wcRegion ?_))
    refine M_ rfl <| V_ (opNot rfl) <| wlThen ?_
    cases h9 : put
    ·
     refine wcCondT rfl <| wcRegion <| M_ rfl <| V_ (opLoadRow (cs := x.cells) rfl (hB.range (i := 0) (m := 34) rfl (by simp [cl_])) row44 (by simp [cl_])) ?_
     refine wlBuildSlice (α := Stand) (ps := [(0, .tmp 66)]) (xs := [x]) (rows := [x.cells]) elo38 rfl rfl hC hB rfl rfl rfl ⟨rfl, trivial⟩ rfl ?_; intro b10 G w hk hC hB hs11
     replace hq := hq.mono hk.gle; replace hs6 := hs6.mono hk.gle; replace hOout := hOout.mono hk.gle
     refine wlAppend (α := Stand) (bl := [(b3, 44, x.cells)]) (o := outO) (r := []) elo38 hC hB rfl rfl hOout hs11 (by have q0 := hLL; have q9 := hkq; have q8 := hq4; have q1 : out.length ≤ k2 + 1 := (by rw [hOL]; cases put <;> simp); have q2 := hK; have q3 : lf.length ≤ lf.length := (by simp); (try simp); omega) rfl rfl ?_; intro A12 cap13 o14 w hC hB hO15
     refine A_ rfl ?_
     refine wlThen (wcSeq (wcRegion ?_))
     refine M_ rfl <| A_ rfl <| wlThen <| wcRet ?_
     exact r1_ hQ rfl rfl (endO (bl := [(b3, 44, x.cells)]) (o := o14) (r := []) hC hB (by have e0 : lf = q.filter (fun y => !decide (y.dig = x.dig)) := (by rw [hI, List.take_of_length_le (Nat.le_of_not_lt (of_decide_eq_false h4))]); have e2 : withR q x = insR x lf := (by unfold withR; rw [← e0, with_len h5]; rfl); have e3 := hJ; rw [h9, List.drop_eq_nil_of_le (by have q := of_decide_eq_false h8; (try rw [List.length_drop]); omega)] at e3; have e : (out ++ [x]) = withR q x := (by rw [e2, ← e3]; simp [insR]); rw [← e]; exact ⟨_, _, rfl, hO15⟩))
    ·
     refine wcCondF rfl <| wcSkip <| wcOf <| wcSeq <| wcRegion <| M_ rfl <| A_ rfl <| wlThen <| wcRet ?_
     exact r1_ hQ rfl rfl (endO (bl := [(b3, 44, x.cells)]) (o := outO) (r := []) hC hB (by have e0 : lf = q.filter (fun y => !decide (y.dig = x.dig)) := (by rw [hI, List.take_of_length_le (Nat.le_of_not_lt (of_decide_eq_false h4))]); have e2 : withR q x = insR x lf := (by unfold withR; rw [← e0, with_len h5]; rfl); have e3 := hJ; rw [h9, List.drop_eq_nil_of_le (by have q := of_decide_eq_false h8; (try rw [List.length_drop]); omega)] at e3; have e : out = withR q x := (by rw [e2, ← e3]; simp [insR]); rw [← e]; exact ⟨_, _, rfl, hOout⟩))
   ·
    refine wcCondT rfl <| wcSkip <| wcOf <| wcSeq ?_
    refine wcBlock (wcSeq (wcSeq ?_))
    refine wcDrawS 10 [0, 1, 3, 7, 7, 7, 55, 119, 255, 511] fmix (by kernel_rfl) (by kernel_rfl) rfl hC hB ?_; intro w hC hB
    refine D_ 0 rfl rfl (fun _ => opMove rfl) <| D_ 1 rfl rfl (fun _ => opNot rfl) <| D_ 2 rfl rfl (fun _ => opMove rfl) ?_
    cases h16 : put
    ·
     refine EG_ 3 rfl rfl rfl rfl (opLoadRow (cs := x.cells) rfl (hB.range (i := 0) (m := 34) rfl (by simp [cl_])) row44 (by simp [cl_])) <| DG_ 4 rfl rfl rfl rfl (fun _ => opMove rfl) <| DG_ 5 rfl rfl rfl rfl (fun _ => opMove rfl) ?_
     obtain ⟨x17, hx18⟩ : ∃ y_, lf[k2]? = some y_ := ⟨_, List.getElem?_eq_getElem (by have q := of_decide_eq_true h8; (try rw [List.length_drop]); omega)⟩
     obtain ⟨b19, o20, row21, hA24, hr22, hi23⟩ := hs6.elem hx18; subst hA24
     obtain rfl := hi23
     refine DG_ 6 rfl rfl rfl rfl (fun _ => (opIndexAddr rfl rfl slo38 (by have q := of_decide_eq_true h8; (try rw [List.length_drop]); omega))) <| EG_ 7 rfl rfl rfl rfl (opLoadRow (cs := x17.cells) rfl (RowG.range hC.holds hr22) row44 (by simp [cl_])) ?_
     refine wdAll [8] (by kernel_rfl) rfl ⟨wd1 rfl ?_, trivial⟩
     intro hGd
     refine wlOn rfl rfl ?_
     refine wlCallS hC hB rfl co88 rfl rfl (ahead_ret _ _ hC.holds x x17) ?_; intro w hk hC hB
     refine wdNext hGd rfl (kpDrop rfl (kpDrop rfl kpNil)) (Tk.nil _) ?_
     refine D_ 9 rfl rfl (fun _ => opPickT rfl rfl) <| wdDone (by kernel_rfl) <| wcOf ?_
     cases h25 : ((aheadB x x17))
     ·
      refine wcCondF rfl <| wcSkip <| wcOf <| wcRegion <| M_ rfl <| M_ rfl <| M_ rfl <| V_ (opIndexAddr rfl rfl slo38 (by have q := of_decide_eq_true h8; (try rw [List.length_drop]); omega)) <| V_ (opLoadRow (cs := x17.cells) rfl (RowG.range hC.holds hr22) row44 (by simp [cl_])) ?_
      refine wlBuildSlice (α := Stand) (ps := [(0, .tmp 60)]) (xs := [x17]) (rows := [x17.cells]) elo38 rfl rfl hC hB rfl rfl rfl ⟨rfl, trivial⟩ rfl ?_; intro b26 G w hk hC hB hs27
      replace hq := hq.mono hk.gle; replace hs6 := hs6.mono hk.gle; replace hOout := hOout.mono hk.gle; replace hr22 := hr22.mono hk.gle
      refine wlAppend (α := Stand) (bl := [(b3, 44, x.cells)]) (o := outO) (r := []) elo38 hC hB rfl rfl hOout hs27 (by have q0 := hLL; have q9 := hkq; have q8 := hq4; have q1 : out.length ≤ k2 + 1 := (by rw [hOL]; cases put <;> simp); have q2 := hK; have q3 : lf.length ≤ lf.length := (by simp); (try simp); omega) rfl rfl ?_; intro A28 cap29 o30 w hC hB hO31
      refine A_ rfl <| wlNil <| wcOf <| wcRegion <| M_ rfl <| V_ (opIncr rfl rfl (by have q0 := hLL; have q9 := hkq; have q8 := hq4; have q1 : out.length ≤ k2 + 1 := (by rw [hOL]; cases put <;> simp); have q2 := hK; have q3 : lf.length ≤ lf.length := (by simp); omega)) <| A_ rfl <| wlRound ?_
      exact (IH1 (k2 + 1, false, A28, cap29, o30, (out ++ [x17])) _ _ ⟨hC, hB, hq, hs6, hO31, (by have q := of_decide_eq_true h8; (try rw [List.length_drop]); omega), (by rw [← hJ, List.drop_eq_getElem_cons (List.getElem?_eq_some_iff.1 hx18).1, (List.getElem?_eq_some_iff.1 hx18).2]; simp [insR, h4, h5, h8, h16, h25]), (by simp [hOL, h4, h5, h8, h16, h25])⟩ (by have := of_decide_eq_true h8; simp; omega)).sub (fun _ ha => (((((ha.start.c ha 3 rfl).c ha 5 rfl).c ha 7 rfl).c ha 8 rfl).c ha 9 rfl))
     ·
      refine wcCondT rfl <| wcSeq <| wcRegion <| M_ rfl <| V_ (opLoadRow (cs := x.cells) rfl (hB.range (i := 0) (m := 34) rfl (by simp [cl_])) row44 (by simp [cl_])) ?_
      refine wlBuildSlice (α := Stand) (ps := [(0, .tmp 53)]) (xs := [x]) (rows := [x.cells]) elo38 rfl rfl hC hB rfl rfl rfl ⟨rfl, trivial⟩ rfl ?_; intro b32 G w hk hC hB hs33
      replace hq := hq.mono hk.gle; replace hs6 := hs6.mono hk.gle; replace hOout := hOout.mono hk.gle; replace hr22 := hr22.mono hk.gle
      refine wlAppend (α := Stand) (bl := [(b3, 44, x.cells)]) (o := outO) (r := []) elo38 hC hB rfl rfl hOout hs33 (by have q0 := hLL; have q9 := hkq; have q8 := hq4; have q1 : out.length ≤ k2 + 1 := (by rw [hOL]; cases put <;> simp); have q2 := hK; have q3 : lf.length ≤ lf.length := (by simp); (try simp); omega) rfl rfl ?_; intro A34 cap35 o36 w hC hB hO37
      refine A_ rfl <| wlThen <| wcRegion <| A_ rfl <| wlThen <| wcRegion <| M_ rfl <| M_ rfl <| M_ rfl <| V_ (opIndexAddr rfl rfl slo38 (by have q := of_decide_eq_true h8; (try rw [List.length_drop]); omega)) <| V_ (opLoadRow (cs := x17.cells) rfl (RowG.range hC.holds hr22) row44 (by simp [cl_])) ?_
      refine wlBuildSlice (α := Stand) (ps := [(0, .tmp 60)]) (xs := [x17]) (rows := [x17.cells]) elo38 rfl rfl hC hB rfl rfl rfl ⟨rfl, trivial⟩ rfl ?_; intro b38 G w hk hC hB hs39
      replace hq := hq.mono hk.gle; replace hs6 := hs6.mono hk.gle; replace hO37 := hO37.mono hk.gle
      refine wlAppend (α := Stand) (bl := [(b3, 44, x.cells)]) (o := o36) (r := []) elo38 hC hB rfl rfl hO37 hs39 (by have q0 := hLL; have q9 := hkq; have q8 := hq4; have q1 : out.length ≤ k2 + 1 := (by rw [hOL]; cases put <;> simp); have q2 := hK; have q3 : lf.length ≤ lf.length := (by simp); (try simp); omega) rfl rfl ?_; intro A40 cap41 o42 w hC hB hO43
      refine A_ rfl <| wlNil <| wcOf <| wcRegion <| M_ rfl <| V_ (opIncr rfl rfl (by have q0 := hLL; have q9 := hkq; have q8 := hq4; have q1 : out.length ≤ k2 + 1 := (by rw [hOL]; cases put <;> simp); have q2 := hK; have q3 : lf.length ≤ lf.length := (by simp); omega)) <| A_ rfl <| wlRound ?_
      exact (IH1 (k2 + 1, true, A40, cap41, o42, ((out ++ [x]) ++ [x17])) _ _ ⟨hC, hB, hq, hs6, hO43, (by have q := of_decide_eq_true h8; (try rw [List.length_drop]); omega), (by rw [← hJ, List.drop_eq_getElem_cons (List.getElem?_eq_some_iff.1 hx18).1, (List.getElem?_eq_some_iff.1 hx18).2]; simp [insR, h4, h5, h8, h16, h25]), (by simp [hOL, h4, h5, h8, h16, h25])⟩ (by have := of_decide_eq_true h8; simp; omega)).sub (fun _ ha => (((((ha.start.c ha 3 rfl).c ha 5 rfl).c ha 7 rfl).c ha 8 rfl).c ha 9 rfl))
    ·
     refine O_ 3 rfl rfl rfl rfl rfl <| O_ 4 rfl rfl rfl rfl rfl <| O_ 5 rfl rfl rfl rfl rfl <| O_ 6 rfl rfl rfl rfl rfl <| O_ 7 rfl rfl rfl rfl rfl <| O_ 8 rfl rfl rfl rfl rfl <| D_ 9 rfl rfl (fun _ => opPickF rfl rfl) <| wdDone (by kernel_rfl) <| wcOf <| wcCondF rfl <| wcSkip <| wcOf <| wcRegion <| M_ rfl <| M_ rfl <| M_ rfl ?_
     obtain ⟨x44, hx45⟩ : ∃ y_, lf[k2]? = some y_ := ⟨_, List.getElem?_eq_getElem (by have q := of_decide_eq_true h8; (try rw [List.length_drop]); omega)⟩
     obtain ⟨b46, o47, row48, hA51, hr49, hi50⟩ := hs6.elem hx45; subst hA51
     obtain rfl := hi50
     refine V_ (opIndexAddr rfl rfl slo38 (by have q := of_decide_eq_true h8; (try rw [List.length_drop]); omega)) <| V_ (opLoadRow (cs := x44.cells) rfl (RowG.range hC.holds hr49) row44 (by simp [cl_])) ?_
     refine wlBuildSlice (α := Stand) (ps := [(0, .tmp 60)]) (xs := [x44]) (rows := [x44.cells]) elo38 rfl rfl hC hB rfl rfl rfl ⟨rfl, trivial⟩ rfl ?_; intro b52 G w hk hC hB hs53
     replace hq := hq.mono hk.gle; replace hs6 := hs6.mono hk.gle; replace hOout := hOout.mono hk.gle
     refine wlAppend (α := Stand) (bl := [(b3, 44, x.cells)]) (o := outO) (r := []) elo38 hC hB rfl rfl hOout hs53 (by have q0 := hLL; have q9 := hkq; have q8 := hq4; have q1 : out.length ≤ k2 + 1 := (by rw [hOL]; cases put <;> simp); have q2 := hK; have q3 : lf.length ≤ lf.length := (by simp); (try simp); omega) rfl rfl ?_; intro A54 cap55 o56 w hC hB hO57
     refine A_ rfl <| wlNil <| wcOf <| wcRegion <| M_ rfl <| V_ (opIncr rfl rfl (by have q0 := hLL; have q9 := hkq; have q8 := hq4; have q1 : out.length ≤ k2 + 1 := (by rw [hOL]; cases put <;> simp); have q2 := hK; have q3 : lf.length ≤ lf.length := (by simp); omega)) <| A_ rfl <| wlRound ?_
     exact (IH1 (k2 + 1, true, A54, cap55, o56, (out ++ [x44])) _ _ ⟨hC, hB, hq, hs6, hO57, (by have q := of_decide_eq_true h8; (try rw [List.length_drop]); omega), (by rw [← hJ, List.drop_eq_getElem_cons (List.getElem?_eq_some_iff.1 hx45).1, (List.getElem?_eq_some_iff.1 hx45).2]; simp [insR, h4, h5, h8, h16]), (by simp [hOL, h4, h5, h8, h16])⟩ (by have := of_decide_eq_true h8; simp; omega)).sub (fun _ ha => (((((ha.start.c ha 3 rfl).c ha 5 rfl).c ha 7 rfl).c ha 8 rfl).c ha 9 rfl))
  ·
   refine wcCondT rfl <| wcRegion <| M_ rfl ?_
   obtain ⟨G, hg59, hC, hB, hs58⟩ := Ow.freeze' (bl := [(b3, 44, x.cells)]) (r := []) hOlf hC (Nat.le_refl _) hB (by have q0 := hLL; have q9 := hkq; have q8 := hq4; unfold maxL; omega)
   replace hq := hq.mono hg59
   have hs60 : Sl G (.slice (if lfC = 1 then lfA else Option.map (fun a => a.add (1 * 34)) lfA) ((lf.length - 1)) ((lfC - 1))) (List.drop 1 lf) := Sl.drop hs58 (l := 1) (by have q := of_decide_eq_true h5; omega)
   refine V_ (opSliceFrom (l := 1) slo38 rfl rfl (by have q := hs58.len; rw [q]; exact (by have q := of_decide_eq_true h5; omega))) <| A_ rfl ?_
   refine wlThen (wcSeq (wcRegion ?_))
   refine A_ rfl ?_
   refine wlThen (wcSeq (wcRegion ?_))
   refine A_ rfl ?_
   refine wlThen (wcSeq (wcSeq (wcRegion ?_)))
   refine A_ rfl <| wlThen <| wcBlock ?_
   revert hs60; generalize (if lfC = 1 then lfA else Option.map (fun a => a.add (1 * 34)) lfA) = lA; intro hs60
   refine WC.sub (wrInd (ι := Nat × Bool × (Option Addr) × Nat × (Option Bx) × (List Stand)) (fun i => match i with | (k2, put, outA, outC, outO, out) => ((List.drop 1 lf)).length - k2) (fun i G w => match i with | (k2, put, outA, outC, outO, out) => Cx w0 G0 G w ∧ Bxs G w w0.heap.size ([(b3, 44, x.cells)] ++ (Option.toList outO ++ [])) ∧ Sl G (.slice A1 q.length cap2) q ∧ Sl G (.slice lfA lf.length lfC) lf ∧ Sl G (.slice lA ((lf.length - 1)) ((lfC - 1))) ((List.drop 1 lf)) ∧ Ow G outO 44 (.slice outA out.length outC) out ∧ k2 ≤ ((List.drop 1 lf)).length ∧ (out ++ bif put then ((List.drop 1 lf)).drop k2 else insR x (((List.drop 1 lf)).drop k2)) = insR x ((List.drop 1 lf)) ∧ out.length = k2 + (bif put then 1 else 0)) (fun i => match i with | (k2, put, outA, outC, outO, out) => (((((Env.nil.put 3 (.pointer (some ⟨b3, 0, none⟩))).put 5 (.slice lA ((lf.length - 1)) ((lfC - 1)))).put 7 (.slice outA out.length outC)).put 8 (.bool put)).put 9 (.int .i64 (((k2 : Nat) : Int))))) ?_ (0, false, none, 0, none, []) _ _ ⟨hC, hB, hq, hs58, hs60, (Ow.nil_ _ 44), (Nat.zero_le _), rfl, rfl⟩) (fun _ ha => (((((ha.start.c ha 3 rfl).c ha 5 rfl).c ha 7 rfl).c ha 8 rfl).c ha 9 rfl))
   rintro ⟨k2, put, outA, outC, outO, out⟩ G w N1 IH1 ⟨hC, hB, hq, hs58, hs60, hOout, hK, hJ, hOL⟩
   refine wcSeq (wcSeq (wcRegion ?_))
   refine M_ rfl <| M_ rfl <| V_ (opLen rfl isl38) <| V_ (opLssN rfl rfl) <| wlThen ?_
   cases h61 : decide (k2 < (lf.length - 1))
   ·
    refine wcCondF rfl <| wcExit <| wcOf ?_
    refine wcSeq (wcSeq (wcRegion ?_))
    refine M_ rfl <| V_ (opNot rfl) <| wlThen ?_
    cases h62 : put
    ·
     refine wcCondT rfl <| wcRegion <| M_ rfl <| V_ (opLoadRow (cs := x.cells) rfl (hB.range (i := 0) (m := 34) rfl (by simp [cl_])) row44 (by simp [cl_])) ?_
     refine wlBuildSlice (α := Stand) (ps := [(0, .tmp 66)]) (xs := [x]) (rows := [x.cells]) elo38 rfl rfl hC hB rfl rfl rfl ⟨rfl, trivial⟩ rfl ?_; intro b63 G w hk hC hB hs64
     replace hq := hq.mono hk.gle; replace hs58 := hs58.mono hk.gle; replace hs60 := hs60.mono hk.gle; replace hOout := hOout.mono hk.gle
     refine wlAppend (α := Stand) (bl := [(b3, 44, x.cells)]) (o := outO) (r := []) elo38 hC hB rfl rfl hOout hs64 (by have q0 := hLL; have q9 := hkq; have q8 := hq4; have q1 : out.length ≤ k2 + 1 := (by rw [hOL]; cases put <;> simp); have q2 := hK; have q3 : ((List.drop 1 lf)).length ≤ lf.length := (by simp); (try simp); omega) rfl rfl ?_; intro A65 cap66 o67 w hC hB hO68
     refine A_ rfl ?_
     refine wlThen (wcSeq (wcRegion ?_))
     refine M_ rfl <| A_ rfl <| wlThen <| wcRet ?_
     exact r1_ hQ rfl rfl (endO (bl := [(b3, 44, x.cells)]) (o := o67) (r := []) hC hB (by have e0 : lf = q.filter (fun y => !decide (y.dig = x.dig)) := (by rw [hI, List.take_of_length_le (Nat.le_of_not_lt (of_decide_eq_false h4))]); have e2 : withR q x = insR x ((List.drop 1 lf)) := (by unfold withR; rw [← e0, with_len h5]; rfl); have e3 := hJ; rw [h62, List.drop_eq_nil_of_le (by have q := of_decide_eq_false h61; (try rw [List.length_drop]); omega)] at e3; have e : (out ++ [x]) = withR q x := (by rw [e2, ← e3]; simp [insR]); rw [← e]; exact ⟨_, _, rfl, hO68⟩))
    ·
     refine wcCondF rfl <| wcSkip <| wcOf <| wcSeq <| wcRegion <| M_ rfl <| A_ rfl <| wlThen <| wcRet ?_
     exact r1_ hQ rfl rfl (endO (bl := [(b3, 44, x.cells)]) (o := outO) (r := []) hC hB (by have e0 : lf = q.filter (fun y => !decide (y.dig = x.dig)) := (by rw [hI, List.take_of_length_le (Nat.le_of_not_lt (of_decide_eq_false h4))]); have e2 : withR q x = insR x ((List.drop 1 lf)) := (by unfold withR; rw [← e0, with_len h5]; rfl); have e3 := hJ; rw [h62, List.drop_eq_nil_of_le (by have q := of_decide_eq_false h61; (try rw [List.length_drop]); omega)] at e3; have e : out = withR q x := (by rw [e2, ← e3]; simp [insR]); rw [← e]; exact ⟨_, _, rfl, hOout⟩))
   ·
    refine wcCondT rfl <| wcSkip <| wcOf <| wcSeq ?_
    refine wcBlock (wcSeq (wcSeq ?_))
    refine wcDrawS 10 [0, 1, 3, 7, 7, 7, 55, 119, 255, 511] fmix (by kernel_rfl) (by kernel_rfl) rfl hC hB ?_; intro w hC hB
    refine D_ 0 rfl rfl (fun _ => opMove rfl) <| D_ 1 rfl rfl (fun _ => opNot rfl) <| D_ 2 rfl rfl (fun _ => opMove rfl) ?_
    cases h69 : put
    ·
     refine EG_ 3 rfl rfl rfl rfl (opLoadRow (cs := x.cells) rfl (hB.range (i := 0) (m := 34) rfl (by simp [cl_])) row44 (by simp [cl_])) <| DG_ 4 rfl rfl rfl rfl (fun _ => opMove rfl) <| DG_ 5 rfl rfl rfl rfl (fun _ => opMove rfl) ?_
     obtain ⟨x70, hx71⟩ : ∃ y_, ((List.drop 1 lf))[k2]? = some y_ := ⟨_, List.getElem?_eq_getElem (by have q := of_decide_eq_true h61; (try rw [List.length_drop]); omega)⟩
     obtain ⟨b72, o73, row74, hA77, hr75, hi76⟩ := hs60.elem hx71; subst hA77
     obtain rfl := hi76
     refine DG_ 6 rfl rfl rfl rfl (fun _ => (opIndexAddr rfl rfl slo38 (by have q := of_decide_eq_true h61; (try rw [List.length_drop]); omega))) <| EG_ 7 rfl rfl rfl rfl (opLoadRow (cs := x70.cells) rfl (RowG.range hC.holds hr75) row44 (by simp [cl_])) ?_
     refine wdAll [8] (by kernel_rfl) rfl ⟨wd1 rfl ?_, trivial⟩
     intro hGd
     refine wlOn rfl rfl ?_
     refine wlCallS hC hB rfl co88 rfl rfl (ahead_ret _ _ hC.holds x x70) ?_; intro w hk hC hB
     refine wdNext hGd rfl (kpDrop rfl (kpDrop rfl kpNil)) (Tk.nil _) ?_
     refine D_ 9 rfl rfl (fun _ => opPickT rfl rfl) <| wdDone (by kernel_rfl) <| wcOf ?_
     cases h78 : ((aheadB x x70))
     ·
      refine wcCondF rfl <| wcSkip <| wcOf <| wcRegion <| M_ rfl <| M_ rfl <| M_ rfl <| V_ (opIndexAddr rfl rfl slo38 (by have q := of_decide_eq_true h61; (try rw [List.length_drop]); omega)) <| V_ (opLoadRow (cs := x70.cells) rfl (RowG.range hC.holds hr75) row44 (by simp [cl_])) ?_
      refine wlBuildSlice (α := Stand) (ps := [(0, .tmp 60)]) (xs := [x70]) (rows := [x70.cells]) elo38 rfl rfl hC hB rfl rfl rfl ⟨rfl, trivial⟩ rfl ?_; intro b79 G w hk hC hB hs80
      replace hq := hq.mono hk.gle; replace hs58 := hs58.mono hk.gle; replace hs60 := hs60.mono hk.gle; replace hOout := hOout.mono hk.gle; replace hr75 := hr75.mono hk.gle
      refine wlAppend (α := Stand) (bl := [(b3, 44, x.cells)]) (o := outO) (r := []) elo38 hC hB rfl rfl hOout hs80 (by have q0 := hLL; have q9 := hkq; have q8 := hq4; have q1 : out.length ≤ k2 + 1 := (by rw [hOL]; cases put <;> simp); have q2 := hK; have q3 : ((List.drop 1 lf)).length ≤ lf.length := (by simp); (try simp); omega) rfl rfl ?_; intro A81 cap82 o83 w hC hB hO84
      refine A_ rfl <| wlNil <| wcOf <| wcRegion <| M_ rfl <| V_ (opIncr rfl rfl (by have q0 := hLL; have q9 := hkq; have q8 := hq4; have q1 : out.length ≤ k2 + 1 := (by rw [hOL]; cases put <;> simp); have q2 := hK; have q3 : ((List.drop 1 lf)).length ≤ lf.length := (by simp); omega)) <| A_ rfl <| wlRound ?_
      exact (IH1 (k2 + 1, false, A81, cap82, o83, (out ++ [x70])) _ _ ⟨hC, hB, hq, hs58, hs60, hO84, (by have q := of_decide_eq_true h61; (try rw [List.length_drop]); omega), (by rw [← hJ, List.drop_eq_getElem_cons (List.getElem?_eq_some_iff.1 hx71).1, (List.getElem?_eq_some_iff.1 hx71).2]; simp [insR, h4, h5, h61, h69, h78]), (by simp [hOL, h4, h5, h61, h69, h78])⟩ (by have := of_decide_eq_true h61; simp; omega)).sub (fun _ ha => (((((ha.start.c ha 3 rfl).c ha 5 rfl).c ha 7 rfl).c ha 8 rfl).c ha 9 rfl))
     ·
      refine wcCondT rfl <| wcSeq <| wcRegion <| M_ rfl <| V_ (opLoadRow (cs := x.cells) rfl (hB.range (i := 0) (m := 34) rfl (by simp [cl_])) row44 (by simp [cl_])) ?_
      refine wlBuildSlice (α := Stand) (ps := [(0, .tmp 53)]) (xs := [x]) (rows := [x.cells]) elo38 rfl rfl hC hB rfl rfl rfl ⟨rfl, trivial⟩ rfl ?_; intro b85 G w hk hC hB hs86
      replace hq := hq.mono hk.gle; replace hs58 := hs58.mono hk.gle; replace hs60 := hs60.mono hk.gle; replace hOout := hOout.mono hk.gle; replace hr75 := hr75.mono hk.gle
      refine wlAppend (α := Stand) (bl := [(b3, 44, x.cells)]) (o := outO) (r := []) elo38 hC hB rfl rfl hOout hs86 (by have q0 := hLL; have q9 := hkq; have q8 := hq4; have q1 : out.length ≤ k2 + 1 := (by rw [hOL]; cases put <;> simp); have q2 := hK; have q3 : ((List.drop 1 lf)).length ≤ lf.length := (by simp); (try simp); omega) rfl rfl ?_; intro A87 cap88 o89 w hC hB hO90
      refine A_ rfl <| wlThen <| wcRegion <| A_ rfl <| wlThen <| wcRegion <| M_ rfl <| M_ rfl <| M_ rfl <| V_ (opIndexAddr rfl rfl slo38 (by have q := of_decide_eq_true h61; (try rw [List.length_drop]); omega)) <| V_ (opLoadRow (cs := x70.cells) rfl (RowG.range hC.holds hr75) row44 (by simp [cl_])) ?_
      refine wlBuildSlice (α := Stand) (ps := [(0, .tmp 60)]) (xs := [x70]) (rows := [x70.cells]) elo38 rfl rfl hC hB rfl rfl rfl ⟨rfl, trivial⟩ rfl ?_; intro b91 G w hk hC hB hs92
      replace hq := hq.mono hk.gle; replace hs58 := hs58.mono hk.gle; replace hs60 := hs60.mono hk.gle; replace hO90 := hO90.mono hk.gle
      refine wlAppend (α := Stand) (bl := [(b3, 44, x.cells)]) (o := o89) (r := []) elo38 hC hB rfl rfl hO90 hs92 (by have q0 := hLL; have q9 := hkq; have q8 := hq4; have q1 : out.length ≤ k2 + 1 := (by rw [hOL]; cases put <;> simp); have q2 := hK; have q3 : ((List.drop 1 lf)).length ≤ lf.length := (by simp); (try simp); omega) rfl rfl ?_; intro A93 cap94 o95 w hC hB hO96
      refine A_ rfl <| wlNil <| wcOf <| wcRegion <| M_ rfl <| V_ (opIncr rfl rfl (by have q0 := hLL; have q9 := hkq; have q8 := hq4; have q1 : out.length ≤ k2 + 1 := (by rw [hOL]; cases put <;> simp); have q2 := hK; have q3 : ((List.drop 1 lf)).length ≤ lf.length := (by simp); omega)) <| A_ rfl <| wlRound ?_
      exact (IH1 (k2 + 1, true, A93, cap94, o95, ((out ++ [x]) ++ [x70])) _ _ ⟨hC, hB, hq, hs58, hs60, hO96, (by have q := of_decide_eq_true h61; (try rw [List.length_drop]); omega), (by rw [← hJ, List.drop_eq_getElem_cons (List.getElem?_eq_some_iff.1 hx71).1, (List.getElem?_eq_some_iff.1 hx71).2]; simp [insR, h4, h5, h61, h69, h78]), (by simp [hOL, h4, h5, h61, h69, h78])⟩ (by have := of_decide_eq_true h61; simp; omega)).sub (fun _ ha => (((((ha.start.c ha 3 rfl).c ha 5 rfl).c ha 7 rfl).c ha 8 rfl).c ha 9 rfl))
    ·
     refine O_ 3 rfl rfl rfl rfl rfl <| O_ 4 rfl rfl rfl rfl rfl <| O_ 5 rfl rfl rfl rfl rfl <| O_ 6 rfl rfl rfl rfl rfl <| O_ 7 rfl rfl rfl rfl rfl <| O_ 8 rfl rfl rfl rfl rfl <| D_ 9 rfl rfl (fun _ => opPickF rfl rfl) <| wdDone (by kernel_rfl) <| wcOf <| wcCondF rfl <| wcSkip <| wcOf <| wcRegion <| M_ rfl <| M_ rfl <| M_ rfl ?_
     obtain ⟨x97, hx98⟩ : ∃ y_, ((List.drop 1 lf))[k2]? = some y_ := ⟨_, List.getElem?_eq_getElem (by have q := of_decide_eq_true h61; (try rw [List.length_drop]); omega)⟩
     obtain ⟨b99, o100, row101, hA104, hr102, hi103⟩ := hs60.elem hx98; subst hA104
     obtain rfl := hi103
     refine V_ (opIndexAddr rfl rfl slo38 (by have q := of_decide_eq_true h61; (try rw [List.length_drop]); omega)) <| V_ (opLoadRow (cs := x97.cells) rfl (RowG.range hC.holds hr102) row44 (by simp [cl_])) ?_
     refine wlBuildSlice (α := Stand) (ps := [(0, .tmp 60)]) (xs := [x97]) (rows := [x97.cells]) elo38 rfl rfl hC hB rfl rfl rfl ⟨rfl, trivial⟩ rfl ?_; intro b105 G w hk hC hB hs106
     replace hq := hq.mono hk.gle; replace hs58 := hs58.mono hk.gle; replace hs60 := hs60.mono hk.gle; replace hOout := hOout.mono hk.gle
     refine wlAppend (α := Stand) (bl := [(b3, 44, x.cells)]) (o := outO) (r := []) elo38 hC hB rfl rfl hOout hs106 (by have q0 := hLL; have q9 := hkq; have q8 := hq4; have q1 : out.length ≤ k2 + 1 := (by rw [hOL]; cases put <;> simp); have q2 := hK; have q3 : ((List.drop 1 lf)).length ≤ lf.length := (by simp); (try simp); omega) rfl rfl ?_; intro A107 cap108 o109 w hC hB hO110
     refine A_ rfl <| wlNil <| wcOf <| wcRegion <| M_ rfl <| V_ (opIncr rfl rfl (by have q0 := hLL; have q9 := hkq; have q8 := hq4; have q1 : out.length ≤ k2 + 1 := (by rw [hOL]; cases put <;> simp); have q2 := hK; have q3 : ((List.drop 1 lf)).length ≤ lf.length := (by simp); omega)) <| A_ rfl <| wlRound ?_
     exact (IH1 (k2 + 1, true, A107, cap108, o109, (out ++ [x97])) _ _ ⟨hC, hB, hq, hs58, hs60, hO110, (by have q := of_decide_eq_true h61; (try rw [List.length_drop]); omega), (by rw [← hJ, List.drop_eq_getElem_cons (List.getElem?_eq_some_iff.1 hx98).1, (List.getElem?_eq_some_iff.1 hx98).2]; simp [insR, h4, h5, h61, h69]), (by simp [hOL, h4, h5, h61, h69])⟩ (by have := of_decide_eq_true h61; simp; omega)).sub (fun _ ha => (((((ha.start.c ha 3 rfl).c ha 5 rfl).c ha 7 rfl).c ha 8 rfl).c ha 9 rfl))
 ·
  refine wcCondT rfl <| wcSkip <| wcOf <| wcSeq <| wcBlock <| wcSeq ?_
  refine wcDrawS 8 [0, 0, 3, 7, 15, 0, 32, 127] fmix (by kernel_rfl) (by kernel_rfl) rfl hC hB ?_; intro w hC hB
  refine D_ 0 rfl rfl (fun _ => opMove rfl) <| D_ 1 rfl rfl (fun _ => opMove rfl) ?_
  obtain ⟨x111, hx112⟩ : ∃ y_, q[k]? = some y_ := ⟨_, List.getElem?_eq_getElem (of_decide_eq_true h4)⟩
  obtain ⟨b113, o114, row115, hA118, hr116, hi117⟩ := hq.elem hx112; subst hA118
  obtain rfl := hi117
  refine D_ 2 rfl rfl (fun _ => (opIndexAddr rfl rfl slo38 (of_decide_eq_true h4))) <| D_ 3 rfl rfl (fun _ => (opFieldAddr rfl fo44_1)) <| E_ 4 rfl rfl (opLoadRow (cs := x111.dig.cells) rfl (RowG.range hC.holds (hr116.part (i := 1) (m := 32) (by simp [cl_]))) row37 (by simp [cl_])) <| D_ 5 rfl rfl (fun _ => (opFieldAddr rfl fo44_1)) <| E_ 6 rfl rfl (opLoadRow (cs := x.dig.cells) rfl (hB.range (i := 0) (m := 32) rfl (by simp [cl_])) row37 (by simp [cl_])) <| D_ 7 rfl rfl (fun _ => (opNeRow (eq37 _ x111.dig x.dig) eg37 rfl rfl)) <| wdDone (by kernel_rfl) <| wcOf ?_
  cases h119 : decide (x111.dig = x.dig)
  ·
   refine wcCondT rfl <| wcRegion <| M_ rfl <| M_ rfl <| M_ rfl <| V_ (opIndexAddr rfl rfl slo38 (of_decide_eq_true h4)) <| V_ (opLoadRow (cs := x111.cells) rfl (RowG.range hC.holds hr116) row44 (by simp [cl_])) ?_
   refine wlBuildSlice (α := Stand) (ps := [(0, .tmp 28)]) (xs := [x111]) (rows := [x111.cells]) elo38 rfl rfl hC hB rfl rfl rfl ⟨rfl, trivial⟩ rfl ?_; intro b120 G w hk hC hB hs121
   replace hq := hq.mono hk.gle; replace hOlf := hOlf.mono hk.gle
   refine wlAppend (α := Stand) (bl := [(b3, 44, x.cells)]) (o := lfO) (r := []) elo38 hC hB rfl rfl hOlf hs121 (by have q0 := hLL; have q9 := hkq; have q8 := hq4; (try simp); omega) rfl rfl ?_; intro A122 cap123 o124 w hC hB hO125
   refine A_ rfl <| wlNil <| wcOf <| wcRegion <| M_ rfl <| V_ (opIncr rfl rfl (incr_ok (of_decide_eq_true h4) hq.le)) <| A_ rfl <| wlRound ?_
   exact (IH0 (k + 1, A122, cap123, o124, (lf ++ [x111])) _ _ ⟨hC, hB, hq, hO125, (of_decide_eq_true h4), (by (try simp); omega), (by rw [hI, List.take_add_one, hx112, List.filter_append]; simp [h4, h119])⟩ (by have := of_decide_eq_true h4; simp; omega)).sub (fun _ ha => ((((ha.start.c ha 0 rfl).c ha 3 rfl).c ha 5 rfl).c ha 6 rfl))
  ·
   refine wcCondF rfl <| wcSkip <| wcOf <| wcRegion <| M_ rfl <| V_ (opIncr rfl rfl (incr_ok (of_decide_eq_true h4) hq.le)) <| A_ rfl <| wlRound ?_
   exact (IH0 (k + 1, lfA, lfC, lfO, lf) _ _ ⟨hC, hB, hq, hOlf, (of_decide_eq_true h4), (by (try simp); omega), (by rw [hI, List.take_add_one, hx112, List.filter_append]; simp [h4, h119])⟩ (by have := of_decide_eq_true h4; simp; omega)).sub (fun _ ha => ((((ha.start.c ha 0 rfl).c ha 3 rfl).c ha 5 rfl).c ha 6 rfl))

end Go.Proofs.YtljcgggflgbenaaGreatDoor
