/- What functions of the slots seat return, part 10. No condition. -/
import Derived.Test.YtljcgggflgbenaaGreatDoorZlG9
import Derived.Test.YtljcgggflgbenaaGreatDoorZlRef4
set_option linter.all false
namespace Go.Proofs.YtljcgggflgbenaaGreatDoor
open Go Go.Gx Go.RowKit
theorem lowR_hi {low : Int} (h : lowB low = true) : low ≤ 9007199254740983 := by
  simp [lowB] at h; omega
theorem lowR_lo {low : Int} (h : lowB low = true) : 0 ≤ low := by
  simp [lowB] at h; omega
theorem dd_eq {m : RfS} {low : Int} (ok : RfOk m) (h1 : decide (low < m.low) = false) (h2 : lowB low = true) : IntKind.wrap .i64 (low - m.low) = (((low - m.low).toNat : Nat) : Int) := by
  have := of_decide_eq_false h1
  have := lowR_hi h2
  obtain ⟨l1, l2⟩ := ok.low
  rw [IntWalk.i64_in _ (by omega)]; omega
theorem dd_add {m : RfS} {low : Int} {k : Nat} (ok : RfOk m) (h2 : lowB low = true) (hk : k < 8) : (low - m.low).toNat + k < 9223372036854775808 := by
  have := lowR_hi h2
  obtain ⟨l1, l2⟩ := ok.low
  omega
def MvI (R rl rn : List RowR) (d k : Nat) : Prop := rl = (R.drop d).take k ++ rn ∧ rn.length = k - (8 - d)
theorem mv_zero (R : List RowR) (d : Nat) : MvI R [] [] d 0 := ⟨by simp, by simp⟩
theorem mv_step {R rl rn : List RowR} {d k : Nat} {r : RowR} (h : MvI R rl rn d k) (hk : decide (d + k < 8) = true) (hr : R[d + k]? = some r) : MvI R (rl ++ [r]) rn d (k + 1) := by
  have hk := of_decide_eq_true hk
  obtain ⟨h1, h2⟩ := h
  have h0 : rn = [] := List.length_eq_zero_iff.1 (by omega)
  subst h0
  refine ⟨?_, by simp; omega⟩
  rw [h1, List.take_add_one, List.getElem?_drop, hr]; simp
theorem nw_step {R rl rn : List RowR} {d k : Nat} {r : RowR} (hR : R.length = 8) (h : MvI R rl rn d k) (hk : decide (d + k < 8) = false) : MvI R (rl ++ [r]) (rn ++ [r]) d (k + 1) := by
  have hk := of_decide_eq_false hk
  obtain ⟨h1, h2⟩ := h
  refine ⟨?_, by rw [List.length_append, List.length_singleton]; omega⟩
  rw [h1, List.take_of_length_le (by rw [List.length_drop]; omega), List.take_of_length_le (by rw [List.length_drop]; omega), List.append_assoc]
theorem mv_len {R rl rn : List RowR} {d k : Nat} (h : MvI R rl rn d k) (hk : k ≤ 8) : rl.length + 1 ≤ 1073741824 := by
  obtain ⟨h1, h2⟩ := h
  rw [h1, List.length_append, List.length_take]; omega
theorem mv_end {R rl rn : List RowR} {d k : Nat} (hR : R.length = 8) (h : MvI R rl rn d k) (hk : k ≤ 8) (hk2 : decide (k < 8) = false) : rl = R.drop d ++ rn ∧ rl.length = 8 ∧ rn.length = min d 8 := by
  have := of_decide_eq_false hk2
  obtain rfl : k = 8 := by omega
  obtain ⟨h1, h2⟩ := h
  rw [List.take_of_length_le (by rw [List.length_drop]; omega)] at h1
  refine ⟨h1, ?_, by omega⟩
  rw [h1, List.length_append, List.length_drop]; omega
def newOkR (c : Crew) (self low : Int) : Bool := (check c == 0) && rhasB c self && lowB low
theorem newOkR_1 {c : Crew} {self low : Int} (h : newOkR c self low = true) : check c = 0 := by
  simp only [newOkR, Bool.and_eq_true] at h; exact eq_of_beq h.1.1
theorem newOkR_2 {c : Crew} {self low : Int} (h : newOkR c self low = true) : rhasB c self = true := by
  simp only [newOkR, Bool.and_eq_true] at h; exact h.1.2
theorem newOkR_3 {c : Crew} {self low : Int} (h : newOkR c self low = true) : lowB low = true := by
  simp only [newOkR, Bool.and_eq_true] at h; exact h.2
theorem co30 : callOk Tryz.prog 30 = true := by kernel_rfl
theorem sz62 : (Tryz.prog.info? 62).map (·.size) = some 1 := by kernel_rfl
theorem elo62 : elemOk Tryz.prog 62 69 71 168 = true := by kernel_rfl
theorem co29 : callOk Tryz.prog 29 = true := by kernel_rfl
theorem so64 : structOk Tryz.prog 64 [(0, 2), (2, 1), (3, 1), (4, 1)] = true := by kernel_rfl
theorem zero64 : (Tryz.prog.info? 64).bind (fun i => i.zero.map Value.cells) = some ([(.int .i64 0), (.slice none 0 0), (.int .i64 0), (.int .i64 0), (.slice none 0 0)] : List Value).toArray := by kernel_rfl
theorem rraise_ret (G0 : Gh) (w0 : World) (hw : Holds G0 w0) (bm : Nat) (Om : List (Nat × Obj)) (m : RfS) (hOm : ∀ x ∈ Om, w0.heap[x.1]? = some x.2 ∧ G0 x.1 = none) (hdm : (Om.map (·.1)).Nodup) (hm : RfO G0 bm Om m) (low : Int) :
  RetT Tryz.prog 38 #[.pointer (some ⟨bm, 0, none⟩), .int .i64 low] G0 w0 (List.map (·.1) Om) (fun G O v_ => RfO G bm O (raiseR m low).1 ∧ v_ = .int .i64 (raiseR m low).2) := by
 have hC := Cx.refl hw
 have hB : Bxs G0 w0 w0.heap.size [] := Bxs.nil _ _ _
 have hC := Cx.reflH Om (List.map (·.1) Om) hw (fun x hx => ⟨(hOm x hx).1, (hOm x hx).2, List.mem_map.2 ⟨x, hx, rfl⟩⟩) hdm
 replace hC : Cx w0 G0 G0 w0 ⟨(List.map (·.1) Om), (Om ++ [])⟩ := by simpa using hC
 have hB : Bxs G0 w0 w0.heap.size [] ⟨(List.map (·.1) Om), (Om ++ [])⟩ := Bxs.nil _ _ _
 have OKm := hm.1
 obtain ⟨v1, lb2, so3, cp4, lc5, R6, H7, hN8⟩ := hm.names
 have hn9 := hN8.n
 obtain ⟨A10, cap11, rfl⟩ := hn9.form
 refine callsOf Tryz.func38 rfl _ Tryz.ntmps38 rfl _ (argsCons (argsCons argsNil (t := 0) rfl) (t := 1) rfl) ?_; intro Q0 hQ
 refine wcSeq <| wcRegion <| A_ rfl ?_
 refine wlThen (wcSeq (wcSeq (wcRegion ?_)))
 refine M_ rfl <| M_ rfl <| V_ (opNilCheck rfl) <| V_ (opFieldAddr rfl fo64_2) <| V_ (opLoadOne (v := (.int .i64 m.low)) rfl (hN8.cell (fun x hx => (hC.held x (List.mem_append_left _ hx)).1) (o := 3) rfl) one3) <| V_ (opLss rfl rfl) <| M_ rfl ?_
 cases h12 : decide (low < m.low)
 ·
  refine wlOn rfl rfl <| M_ rfl <| wlOn rfl rfl ?_
  refine wlCallS hC hB rfl co30 rfl rfl (rlowMay_ret _ _ hC.holds low) ?_; intro w hk hC hB
  refine wlOn rfl rfl <| V_ (opNot rfl) <| V_ (opPickF rfl rfl) <| wlThen ?_
  cases h13 : (lowB low)
  ·
   refine wcCondT rfl <| wcSeq <| wcRegion <| A_ rfl <| wlThen <| wcRet ?_
   exact r1_ hQ rfl rfl (endT hC Om ⟨[], .refl _⟩ ⟨(by have e_ : (raiseR m low).1 = m := (by simp only [raiseR, h12, h13, ta_]); rw [e_]; exact hN8.rfo), (congrArg (Value.int .i64) (by simp only [raiseR, h12, h13, ta_]))⟩)
  ·
   refine wcCondF rfl <| wcSkip <| wcOf <| wcSeq <| wcRegion <| A_ rfl ?_
   refine wlThen (wcSeq (wcSeq (wcRegion ?_)))
   refine A_ rfl <| wlThen <| wcBlock ?_
   refine WC.sub (wrInd (ι := Nat × (Option Addr) × Nat × (Option Bx) × (List RowR) × (List RowR) × (List (Nat × Obj))) (fun i => match i with | (k, rlA, rlC, rlO, rl, rn, OR) => 8 - k) (fun i G w => match i with | (k, rlA, rlC, rlO, rl, rn, OR) => Cx w0 G0 G w ⟨(List.map (·.1) Om), (OR ++ (Om ++ []))⟩ ∧ Bxs G w w0.heap.size ([] ++ (Option.toList rlO ++ [])) ⟨(List.map (·.1) Om), (OR ++ (Om ++ []))⟩ ∧ Sl G (.slice A10 m.crew.nodes.length cap11) m.crew.nodes ∧ RfN G bm Om m (.slice A10 m.crew.nodes.length cap11) lb2 so3 cp4 lc5 R6 H7 ∧ Ow G rlO 69 (.slice rlA rl.length rlC) rl ∧ RfL G rn OR (List.replicate rn.length (emptyR m.crew.nodes.length)) ∧ k ≤ 8 ∧ MvI R6 rl rn (low - m.low).toNat k) (fun i => match i with | (k, rlA, rlC, rlO, rl, rn, OR) => ((((Env.nil.put 0 (.pointer (some ⟨bm, 0, none⟩))).put 1 (.int .i64 low)).put 5 (.slice rlA rl.length rlC)).put 6 (.int .i64 (((k : Nat) : Int))))) ?_ (0, none, 0, none, [], [], []) _ _ ⟨hC, hB, hn9, hN8, (Ow.nil_ _ 69), (RfL.nil _), (Nat.zero_le _), (mv_zero _ _)⟩) (fun _ ha => ((((ha.start.c ha 0 rfl).c ha 1 rfl).c ha 5 rfl).c ha 6 rfl))
   rintro ⟨k, rlA, rlC, rlO, rl, rn, OR⟩ G w N0 IH0 ⟨hC, hB, hn9, hN8, hOrl, hRr, hk8, hD⟩
   refine wcSeq (wcSeq (wcRegion ?_))
   refine M_ rfl <| V_ (opLssN (b := 8) rfl rfl) <| wlThen ?_
   cases h14 : decide (k < 8)
   ·
    refine wcCondF rfl <| wcExit <| wcOf <| wcSeq <| wcRegion <| M_ rfl <| M_ rfl <| V_ (opNilCheck rfl) <| V_ (opFieldAddr rfl fo64_3) ?_
    have hE22 := mv_end (hN8.l.length.trans OKm.len) hD hk8 h14
    refine wlRfL (bl := []) (r := []) hN8 hC hB hOrl hRr hE22.1 hE22.2.1 rfl rfl sz62 rfl ?_; intro O15 lb16 so17 cp18 lc19 H20 w hC hB hN21
    refine wlThen (wcSeq (wcRegion ?_))
    refine M_ rfl <| M_ rfl <| V_ (opNilCheck rfl) <| V_ (opFieldAddr rfl fo64_2) ?_
    refine wlRfLow hN21 hC hB ⟨lowR_lo h13, lowR_hi h13⟩ rfl rfl sz3 rfl ?_; intro O23 w hC hB hN24
    refine wlThen (wcSeq (wcRegion ?_))
    refine A_ rfl <| wlThen <| wcRet ?_
    exact r1_ hQ rfl rfl (endT hC O23 ⟨[], .refl _⟩ ⟨(by have e_ : (raiseR m low).1 = (RfS.mk ((RfS.mk m.crew m.self m.low (List.drop (low - m.low).toNat m.l ++ List.replicate rn.length (emptyR m.crew.nodes.length)))).crew ((RfS.mk m.crew m.self m.low (List.drop (low - m.low).toNat m.l ++ List.replicate rn.length (emptyR m.crew.nodes.length)))).self low ((RfS.mk m.crew m.self m.low (List.drop (low - m.low).toNat m.l ++ List.replicate rn.length (emptyR m.crew.nodes.length)))).l) := (by simp only [raiseR, h12, h13, h14, ta_, ← hE22.2.2]); rw [e_]; exact hN24.rfo), (congrArg (Value.int .i64) (by simp only [raiseR, h12, h13, h14, ta_, ← hE22.2.2]))⟩)
   ·
    refine wcCondT rfl <| wcSkip <| wcOf <| wcSeq ?_
    refine wcBlock (wcSeq (wcRegion ?_))
    refine M_ rfl <| M_ rfl <| V_ (opNilCheck rfl) <| V_ (opFieldAddr rfl fo64_2) <| V_ (opLoadOne (v := (.int .i64 m.low)) rfl (hN8.cell (fun x hx => (hC.held x (List.mem_append_right _ (List.mem_append_left _ hx))).1) (o := 3) rfl) one3) <| V_ (OpVal.cast (v' := .int .i64 ((((low - m.low).toNat) : Nat) : Int)) (opSub rfl rfl) (congrArg (Value.int .i64) (dd_eq OKm h12 h13))) <| M_ rfl <| V_ (opAddN rfl rfl (dd_add OKm h13 (of_decide_eq_true h14))) <| A_ rfl ?_
    refine wlThen (wcSeq (wcRegion ?_))
    refine M_ rfl <| V_ (opLssN (b := 8) rfl rfl) <| wlThen ?_
    cases h25 : decide (((low - m.low).toNat) + k < 8)
    ·
     refine wcCondF rfl <| wcRegion <| M_ rfl <| M_ rfl <| V_ (opNilCheck rfl) <| V_ (opFieldAddr rfl fo64_0) <| V_ (opLoadRow (cs := [(.int .i64 m.crew.faults), (.slice A10 m.crew.nodes.length cap11)]) rfl (hN8.crew (fun x hx => (hC.held x (List.mem_append_right _ (List.mem_append_left _ hx))).1)) row24 rfl) ?_
     refine wlCallNew (B := (OR ++ (Om ++ []))) hC hB rfl co31 rfl rfl (empty_ret _ _ hC.holds _ m.crew (Crew.mkIs (x := m.crew) hn9) (new_l7 (by rw [OKm.crew]; rfl))) ?_; rintro v26 G O_ w hg hC hB ⟨xr27, rfl, rfl, hx28⟩
     replace hn9 := hn9.mono hg; replace hN8 := hN8.mono hg; replace hOrl := hOrl.mono hg; replace hRr := hRr.mono hg
     replace hC := hC.permH (List.Perm.of_eq (List.append_assoc _ _ _).symm)
     replace hB := hB.permH (List.Perm.of_eq (List.append_assoc _ _ _).symm)
     have hR29 := RfL.snocE hRr hx28
     refine wlBuildSlice (α := RowR) (ps := [(0, .tmp 48)]) (xs := [xr27.r]) (rows := [(RowR.cells xr27.r)]) elo62 rfl rfl hC hB rfl rfl rfl ⟨rfl, trivial⟩ rfl ?_; intro b30 G w hk hC hB hs31
     replace hn9 := hn9.mono hk.gle; replace hN8 := hN8.mono hk.gle; replace hOrl := hOrl.mono hk.gle; replace hR29 := hR29.mono hk.gle
     refine wlAppend (α := RowR) (bl := []) (o := rlO) (r := []) elo62 hC hB rfl rfl hOrl hs31 (mv_len hD hk8) rfl rfl ?_; intro A32 cap33 o34 w hC hB hO35
     refine A_ rfl <| wlNil <| wcOf <| wcRegion <| M_ rfl <| V_ (opIncr rfl rfl (by have q := of_decide_eq_true h14; omega)) <| A_ rfl <| wlRound ?_
     exact (IH0 (k + 1, A32, cap33, o34, (rl ++ [xr27.r]), (rn ++ [xr27.r]), (Rw.blocks xr27 ++ OR)) _ _ ⟨hC, hB, hn9, hN8, hO35, hR29, (of_decide_eq_true h14), (nw_step (hN8.l.length.trans OKm.len) hD h25)⟩ (by have q := of_decide_eq_true h14; show 8 - (k + 1) < 8 - k; omega)).sub (fun _ ha => ((((ha.start.c ha 0 rfl).c ha 1 rfl).c ha 5 rfl).c ha 6 rfl))
    ·
     refine wcCondT rfl <| wcRegion <| M_ rfl <| M_ rfl <| V_ (opNilCheck rfl) <| V_ (opFieldAddr rfl fo64_3) <| V_ (opLoadOne (v := (.slice (some ⟨lb2, so3, none⟩) 8 cp4)) rfl (hN8.cell (fun x hx => (hC.held x (List.mem_append_right _ (List.mem_append_left _ hx))).1) (o := 4) rfl) one62) <| M_ rfl ?_
     obtain ⟨x36, hx37⟩ : ∃ y_, m.l[((low - m.low).toNat) + k]? = some y_ := ⟨_, List.getElem?_eq_getElem (by rw [OKm.len]; exact of_decide_eq_true h25)⟩
     refine V_ (opIndexAddr rfl rfl slo62 (hN8.lt hx37)) ?_
     obtain ⟨r38, hr39, hrr40⟩ := hN8.rowr hx37
     refine V_ (opLoadRow (cs := RowR.cells r38) rfl (hrr40 _ (fun x hx => (hC.held x (List.mem_append_right _ (List.mem_append_left _ hx))).1)) row69 (by simp [RowR.cells])) ?_
     refine wlBuildSlice (α := RowR) (ps := [(0, .tmp 40)]) (xs := [r38]) (rows := [(RowR.cells r38)]) elo62 rfl rfl hC hB rfl rfl rfl ⟨rfl, trivial⟩ rfl ?_; intro b41 G w hk hC hB hs42
     replace hn9 := hn9.mono hk.gle; replace hN8 := hN8.mono hk.gle; replace hOrl := hOrl.mono hk.gle; replace hRr := hRr.mono hk.gle
     refine wlAppend (α := RowR) (bl := []) (o := rlO) (r := []) elo62 hC hB rfl rfl hOrl hs42 (mv_len hD hk8) rfl rfl ?_; intro A43 cap44 o45 w hC hB hO46
     refine A_ rfl <| wlNil <| wcOf <| wcRegion <| M_ rfl <| V_ (opIncr rfl rfl (by have q := of_decide_eq_true h14; omega)) <| A_ rfl <| wlRound ?_
     exact (IH0 (k + 1, A43, cap44, o45, (rl ++ [r38]), rn, OR) _ _ ⟨hC, hB, hn9, hN8, hO46, hRr, (of_decide_eq_true h14), (mv_step hD h25 hr39)⟩ (by have q := of_decide_eq_true h14; show 8 - (k + 1) < 8 - k; omega)).sub (fun _ ha => ((((ha.start.c ha 0 rfl).c ha 1 rfl).c ha 5 rfl).c ha 6 rfl))
 ·
  refine wlOff rfl rfl rfl rfl <| wlOff rfl rfl rfl rfl <| wlOff rfl rfl rfl rfl <| V_ (opPickT rfl rfl) <| wlThen <| wcCondT rfl <| wcSeq <| wcRegion <| A_ rfl <| wlThen <| wcRet ?_
  exact r1_ hQ rfl rfl (endT hC Om ⟨[], .refl _⟩ ⟨(by have e_ : (raiseR m low).1 = m := (by simp only [raiseR, h12, ta_]); rw [e_]; exact hN8.rfo), (congrArg (Value.int .i64) (by simp only [raiseR, h12, ta_]))⟩)

theorem rnew_ok (G0 : Gh) (w0 : World) (hw : Holds G0 w0) (csc : List Value) (c : Crew) (hc : Rp.Is G0 csc c) (self : Int) (low : Int) (hok : newOkR c self low = true) :
  RetT Tryz.prog 6 #[.agg csc.toArray, .int .i64 self, .int .i64 low] G0 w0 [] (fun G L v => ∃ b, v = .tuple #[.pointer (some ⟨b, 0, none⟩), .int .i64 0] ∧ RfO G b L (newR c self low)) := by
 have hC := Cx.refl hw
 have hB : Bxs G0 w0 w0.heap.size [] := Bxs.nil _ _ _
 obtain ⟨v1, rfl, hs2⟩ := Crew.opIs hc
 obtain ⟨A3, cap4, rfl⟩ := hs2.form
 refine callsOf Tryz.func6 rfl _ Tryz.ntmps6 rfl _ (argsCons (argsCons (argsCons argsNil (t := 0) rfl) (t := 1) rfl) (t := 2) rfl) ?_; intro Q0 hQ
 refine wcSeq <| wcRegion ?_
 refine wlBox (cs := [(.int .i64 c.faults), (.slice A3 c.nodes.length cap4)]) hC hB rfl rfl rfl ?_; intro b5 w hk hC hB
 refine A_ rfl <| A_ rfl ?_
 refine wlThen (wcSeq (wcSeq (wcRegion ?_)))
 refine V_ (opLoadRow (cs := [(.int .i64 c.faults), (.slice A3 c.nodes.length cap4)]) rfl (hB.range (i := 0) (m := 2) rfl rfl) row24 rfl) ?_
 refine wlCallS hC hB rfl co28 rfl rfl (rcheck_ret _ _ hC.holds _ c (Crew.mkIs (x := c) hs2)) ?_; intro w hk hC hB
 refine V_ (opNeq rfl rfl) <| M_ rfl ?_
 cases h6 : ((check c)) != 0
 ·
  refine wlOn rfl rfl <| V_ (opLoadRow (cs := [(.int .i64 c.faults), (.slice A3 c.nodes.length cap4)]) rfl (hB.range (i := 0) (m := 2) rfl rfl) row24 rfl) <| wlOn rfl rfl <| M_ rfl <| wlOn rfl rfl ?_
  refine wlCallS hC hB rfl co29 rfl rfl (rhas_ret _ _ hC.holds _ c (Crew.mkIs (x := c) hs2) self) ?_; intro w hk hC hB
  refine wlOn rfl rfl <| V_ (opNot rfl) <| V_ (opPickF rfl rfl) <| wlThen ?_
  cases h7 : (rhasB c self)
  ·
   exact (absurd h7 (by rw [newOkR_2 hok]; decide) : False).elim
  ·
   refine wcCondF rfl <| wcSkip <| wcOf ?_
   refine wcSeq (wcSeq (wcRegion ?_))
   refine M_ rfl ?_
   refine wlCallS hC hB rfl co30 rfl rfl (rlowMay_ret _ _ hC.holds low) ?_; intro w hk hC hB
   refine V_ (opNot rfl) <| wlThen ?_
   cases h8 : (lowB low)
   ·
    exact (absurd h8 (by rw [newOkR_3 hok]; decide) : False).elim
   ·
    refine wcCondF rfl <| wcSkip <| wcOf <| wcSeq <| wcRegion <| A_ rfl <| wlThen <| wcSeq ?_
    refine wcDrawS 12 [0, 1, 0, 0, 8, 28, 63, 0, 0, 511, 1023, 2047] fmix (by kernel_rfl) (by kernel_rfl) rfl hC hB ?_; intro w hC hB
    refine D_ 0 rfl rfl (fun _ => (opFieldAddr rfl fo24_0)) <| E_ 1 rfl rfl (opLoadOne (v := (.int .i64 c.faults)) rfl (hB.cell (i := 0) rfl rfl) one3) <| D_ 2 rfl rfl (fun _ => opMove rfl) <| D_ 3 rfl rfl (fun _ => (opFieldAddr rfl fo24_1)) <| E_ 4 rfl rfl (opLoadOne (v := (.slice A3 c.nodes.length cap4)) rfl (hB.cell (i := 0) rfl rfl) one22) <| D_ 7 rfl rfl (fun _ => opMove rfl) <| D_ 8 rfl rfl (fun _ => opMove rfl) ?_
    refine wdAll [5] (by kernel_rfl) rfl ⟨wd1 rfl ?_, trivial⟩
    intro hGd
    refine wlAppend (α := Int) (bl := [(b5, 24, [(.int .i64 c.faults), (.slice A3 c.nodes.length cap4)])]) (o := none) (r := []) elo22 hC hB rfl rfl (Ow.nil_ _ 3) hs2 (by have q := new_l7 (c := c) (by rw [newOkR_1 hok]; rfl); simp; omega) rfl rfl ?_; intro A9 cap10 o11 w hC hB hO12
    refine wdNext hGd rfl (kpDrop rfl (kpKeep rfl kpNil)) (Tk.cons (p := (_, fun w => OpVal _ _ _ w _ _)) (opLoadOne (v := (.int .i64 c.faults)) rfl (hB.cell (i := 0) rfl rfl) one3) (Tk.nil _)) ?_
    obtain ⟨G, hg14, hC, hB, hs13⟩ := Ow.freeze' (bl := [(b5, 24, [(.int .i64 c.faults), (.slice A3 c.nodes.length cap4)])]) (r := []) hO12 hC (Nat.le_refl _) hB (new_le (by rw [newOkR_1 hok]; rfl))
    replace hs2 := hs2.mono hg14
    refine D_ 6 rfl rfl (fun _ => (B_ (ps := [(0, .tmp 24), (1, .tmp 28)]) (cs := [(.int .i64 c.faults), (.slice A9 (((([] : List Int) ++ c.nodes)).length) cap10)]) so24 zero24 rfl rfl)) <| D_ 9 rfl rfl (fun _ => (B_ (ps := [(0, .tmp 29), (1, .tmp 30), (2, .tmp 31)]) (cs := [(.int .i64 c.faults), (.slice A9 (((([] : List Int) ++ c.nodes)).length) cap10), (.int .i64 self), (.int .i64 low), (.slice none 0 0)]) so64 zero64 rfl rfl)) ?_
    refine wdAll [10] (by kernel_rfl) rfl ⟨wd1 rfl ?_, trivial⟩
    intro hGd
    refine wlBox (cs := [(.int .i64 c.faults), (.slice A9 (((([] : List Int) ++ c.nodes)).length) cap10), (.int .i64 self), (.int .i64 low), (.slice none 0 0)]) hC hB rfl rfl rfl ?_; intro b15 w hk hC hB
    refine wdNext hGd rfl (kpDrop rfl kpNil) (Tk.nil _) ?_
    refine D_ 11 rfl rfl (fun _ => opAssign rfl) <| wdDone (by kernel_rfl) <| wcOf ?_
    refine wcSeq (wcSeq (wcRegion ?_))
    refine A_ rfl <| wlThen <| wcBlock ?_
    refine WC.sub (wrInd (ι := Nat × (Option Addr) × Nat × (Option Bx) × (List RowR) × (List (Nat × Obj))) (fun i => match i with | (k, rlA, rlC, rlO, rl, OR) => 8 - k) (fun i G w => match i with | (k, rlA, rlC, rlO, rl, OR) => Cx w0 G0 G w ⟨[], (OR ++ [])⟩ ∧ Bxs G w w0.heap.size ([(b15, 64, [(.int .i64 c.faults), (.slice A9 (((([] : List Int) ++ c.nodes)).length) cap10), (.int .i64 self), (.int .i64 low), (.slice rlA rl.length rlC)]), (b5, 24, [(.int .i64 c.faults), (.slice A3 c.nodes.length cap4)])] ++ (Option.toList rlO ++ [])) ⟨[], (OR ++ [])⟩ ∧ Sl G (.slice A3 c.nodes.length cap4) c.nodes ∧ Sl G (.slice A9 (((([] : List Int) ++ c.nodes)).length) cap10) ((([] : List Int) ++ c.nodes)) ∧ Ow G rlO 69 (.slice rlA rl.length rlC) rl ∧ RfL G rl OR (List.replicate rl.length (emptyR c.nodes.length)) ∧ k ≤ 8 ∧ rl.length = k) (fun i => match i with | (k, rlA, rlC, rlO, rl, OR) => (((Env.nil.put 3 (.pointer (some ⟨b5, 0, none⟩))).put 9 (.pointer (some ⟨b15, 0, none⟩))).put 10 (.int .i64 (((k : Nat) : Int))))) ?_ (0, none, 0, none, [], []) _ _ ⟨hC, hB, hs2, hs13, (Ow.nil_ _ 69), (RfL.nil _), (Nat.zero_le _), rfl⟩) (fun _ ha => (((ha.start.c ha 3 rfl).c ha 9 rfl).c ha 10 rfl))
    rintro ⟨k, rlA, rlC, rlO, rl, OR⟩ G w N0 IH0 ⟨hC, hB, hs2, hs13, hOrl, hRr, hk8, hrl⟩
    refine wcSeq (wcSeq (wcRegion ?_))
    refine M_ rfl <| V_ (opLssN (b := 8) rfl rfl) <| wlThen ?_
    cases h16 : decide (k < 8)
    ·
     refine wcCondF rfl <| wcExit <| wcOf <| wcSeq <| wcRegion <| M_ rfl <| A_ rfl <| A_ rfl <| wlThen <| wcRet ?_
     obtain ⟨hC, hB⟩ := holdO (bl := [(b15, 64, [(.int .i64 c.faults), (.slice A9 (((([] : List Int) ++ c.nodes)).length) cap10), (.int .i64 self), (.int .i64 low), (.slice rlA rl.length rlC)]), (b5, 24, [(.int .i64 c.faults), (.slice A3 c.nodes.length cap4)])]) (r := []) (o := rlO) hC (by simpa using hB)
     obtain ⟨hC, hB⟩ := hold hC hB (i := 0) rfl
     exact r2_ hQ rfl rfl rfl (endT hC ((b15, .cells (List.toArray [(.int .i64 c.faults), (.slice A9 (((([] : List Int) ++ c.nodes)).length) cap10), (.int .i64 self), (.int .i64 low), (.slice rlA rl.length rlC)]) 64 (0, 0)) :: (ob rlO ++ OR)) ⟨[], List.Perm.of_eq (by simp)⟩ ⟨b15, rfl, newR_rfo (newOkR_1 hok) ⟨lowR_lo (newOkR_3 hok), lowR_hi (newOkR_3 hok)⟩ hs13 hOrl hRr (by have q := of_decide_eq_false h16; omega)⟩)
    ·
     refine wcCondT rfl <| wcSkip <| wcOf <| wcSeq <| wcBlock ?_
     refine wcDrawS 12 [0, 0, 2, 6, 14, 0, 32, 96, 254, 511, 1023, 2047] fmix (by kernel_rfl) (by kernel_rfl) rfl hC hB ?_; intro w hC hB
     refine D_ 0 rfl rfl (fun _ => opMove rfl) <| D_ 1 rfl rfl (fun _ => opMove rfl) <| D_ 2 rfl rfl (fun _ => opNilCheck rfl) <| D_ 3 rfl rfl (fun _ => (opFieldAddr rfl fo64_3)) <| E_ 4 rfl rfl (opLoadOne (v := (.slice rlA rl.length rlC)) rfl (hB.cell (i := 0) rfl rfl) one62) <| E_ 5 rfl rfl (opLoadRow (cs := [(.int .i64 c.faults), (.slice A3 c.nodes.length cap4)]) rfl (hB.range (i := 1) (m := 2) rfl rfl) row24 rfl) ?_
     refine wdAll [6] (by kernel_rfl) rfl ⟨wd1 rfl ?_, trivial⟩
     intro hGd
     refine wlCallNew (B := (OR ++ [])) hC hB rfl co31 rfl rfl (empty_ret _ _ hC.holds _ c (Crew.mkIs (x := c) hs2) (new_l7 (by rw [newOkR_1 hok]; rfl))) ?_; rintro v17 G O_ w hg hC hB ⟨xr18, rfl, rfl, hx19⟩
     replace hs2 := hs2.mono hg; replace hs13 := hs13.mono hg; replace hOrl := hOrl.mono hg; replace hRr := hRr.mono hg
     replace hC := hC.permH (List.Perm.of_eq (List.append_assoc _ _ _).symm)
     replace hB := hB.permH (List.Perm.of_eq (List.append_assoc _ _ _).symm)
     have hR20 := RfL.snocE hRr hx19
     refine wdNext hGd rfl (kpDrop rfl (kpKeep rfl kpNil)) (Tk.cons (p := (_, fun w => OpVal _ _ _ w _ _)) (opLoadOne (v := (.slice rlA rl.length rlC)) rfl (hB.cell (i := 0) rfl rfl) one62) (Tk.nil _)) ?_
     refine wdAll [7] (by kernel_rfl) rfl ⟨wd1 rfl ?_, trivial⟩
     intro hGd
     refine wlBuildSlice (α := RowR) (ps := [(0, .tmp 44)]) (xs := [xr18.r]) (rows := [(RowR.cells xr18.r)]) elo62 rfl rfl hC hB rfl rfl rfl ⟨rfl, trivial⟩ rfl ?_; intro b21 G w hk hC hB hs22
     replace hs2 := hs2.mono hk.gle; replace hs13 := hs13.mono hk.gle; replace hOrl := hOrl.mono hk.gle; replace hR20 := hR20.mono hk.gle
     refine wdNext hGd rfl (kpKeep rfl kpNil) (Tk.cons (p := (_, fun w => OpVal _ _ _ w _ _)) (opLoadOne (v := (.slice rlA rl.length rlC)) rfl (hB.cell (i := 0) rfl rfl) one62) (Tk.nil _)) ?_
     refine wdAll [8] (by kernel_rfl) rfl ⟨wd1 rfl ?_, trivial⟩
     intro hGd
     refine wlAppend (α := RowR) (bl := [(b15, 64, [(.int .i64 c.faults), (.slice A9 (((([] : List Int) ++ c.nodes)).length) cap10), (.int .i64 self), (.int .i64 low), (.slice rlA rl.length rlC)]), (b5, 24, [(.int .i64 c.faults), (.slice A3 c.nodes.length cap4)])]) (o := rlO) (r := []) elo62 hC hB rfl rfl hOrl hs22 (by have q := new_l7 (c := c) (by rw [newOkR_1 hok]; rfl); simp; omega) rfl rfl ?_; intro A23 cap24 o25 w hC hB hO26
     refine wdNext hGd rfl (kpDrop rfl kpNil) (Tk.nil _) ?_
     refine D_ 9 rfl rfl (fun _ => opNilCheck rfl) <| D_ 10 rfl rfl (fun _ => (opFieldAddr rfl fo64_3)) ?_
     refine wdAll [11] (by kernel_rfl) rfl ⟨wd1 rfl ?_, trivial⟩
     intro hGd
     refine wlStore 0 (vs := [(.slice A23 (((rl ++ [xr18.r])).length) cap24)]) (cs := [(.int .i64 c.faults), (.slice A9 (((([] : List Int) ++ c.nodes)).length) cap10), (.int .i64 self), (.int .i64 low), (.slice rlA rl.length rlC)]) (cs' := [(.int .i64 c.faults), (.slice A9 (((([] : List Int) ++ c.nodes)).length) cap10), (.int .i64 self), (.int .i64 low), (.slice A23 (((rl ++ [xr18.r])).length) cap24)]) hC hB rfl rfl rfl sz62 rfl rfl rfl (by simp [cl_]) rfl rfl ?_; intro w hC hB
     refine wdNext hGd rfl kpNil (Tk.nil _) ?_
     refine wdDone (by kernel_rfl) <| wcOf <| wcRegion <| M_ rfl <| V_ (opIncr rfl rfl (by have q := of_decide_eq_true h16; omega)) <| A_ rfl <| wlRound ?_
     exact (IH0 (k + 1, A23, cap24, o25, (rl ++ [xr18.r]), (Rw.blocks xr18 ++ OR)) _ _ ⟨hC, hB, hs2, hs13, hO26, hR20, (of_decide_eq_true h16), (by simp [hrl])⟩ (by have q := of_decide_eq_true h16; show 8 - (k + 1) < 8 - k; omega)).sub (fun _ ha => (((ha.start.c ha 3 rfl).c ha 9 rfl).c ha 10 rfl))
 ·
  exact (absurd h6 (by rw [newOkR_1 hok]; decide) : False).elim

end Go.Proofs.YtljcgggflgbenaaGreatDoor
