/- What functions of the slots seat return, part 6. No condition. -/
import Derived.Test.YtljcgggflgbenaaGreatDoorZlG5
import Derived.Test.YtljcgggflgbenaaGreatDoorZlRef2
import Derived.Test.YtljcgggflgbenaaGreatDoorGxChunk
set_option linter.all false
namespace Go.Proofs.YtljcgggflgbenaaGreatDoor
open Go Go.Gx Go.RowKit
theorem setL_at {m : RfS} {i : Nat} {t t' : RSlot} (h : m.l[i]? = some t) : (setL m i t').l[i]? = some t' := by
  show (m.l.set i t')[i]? = _
  rw [List.getElem?_set_self (List.getElem?_eq_some_iff.1 h).1]
theorem setL_len {m : RfS} {i j : Nat} {t : RSlot} (h : j < m.l.length) : j < (setL m i t).l.length := by
  show j < (m.l.set i t).length
  rw [List.length_set]; exact h
def slR (m : RfS) (i : Nat) : RSlot := m.l.getD i default
theorem slR_eq {m : RfS} {i : Nat} {t : RSlot} (h : m.l[i]? = some t) : slR m i = t := by simp [slR, h]
def lookR (m : RfS) (i : Nat) : RfS := bif prepR m i then setL m i (RSlot.mk (slR m i).last (slR m i).pre (slR m i).com (slR m i).last (slR m i).q) else m
def propR (m : RfS) (v k : Int) (d : Dig) : RfS × Int :=
  bif !viewB v then (m, 190) else bif !inR m k then (m, 150) else bif (slR m (ixR m k)).last.has && decide (v < (slR m (ixR m k)).last.view) then (m, 190) else
  bif (slR m (ixR m k)).last.has && ((slR m (ixR m k)).last.view == v) && !decide ((slR m (ixR m k)).last.dig = d) then (m, 151) else
  (lookR (setL (setL m (ixR m k) (RSlot.mk (RVt.mk true v d) (slR m (ixR m k)).pre (slR m (ixR m k)).com (slR m (ixR m k)).p (slR m (ixR m k)).q)) (ixR m k) (RSlot.mk (RVt.mk true v d) (slR m (ixR m k)).pre (slR m (ixR m k)).com (slR m (ixR m k)).p (withR (slR m (ixR m k)).q (Stand.mk k d v)))) (ixR m k), 0)
theorem withR_len {q : List Stand} {x : Stand} (h : q.length ≤ 4) : (withR q x).length ≤ 4 := by
  have hi : ∀ l : List Stand, (insR x l).length = l.length + 1 := by
    intro l; induction l with
    | nil => rfl
    | cons y r ih => unfold insR; cases aheadB x y <;> simp [ih]
  unfold withR
  rw [hi]
  have h2 := List.length_filter_le (fun y : Stand => !decide (y.dig = x.dig)) q
  cases hc : decide (4 ≤ (q.filter (fun y => !decide (y.dig = x.dig))).length) with
  | true => have := of_decide_eq_true hc; simp only [cond_true, List.length_drop]; omega
  | false => have := of_decide_eq_false hc; simp only [cond_false]; omega
theorem idxP_nat {l : List Int} {n : Int} (h : decide (idxG (fun y => y == n) l 0 < 0) = false) : ∃ i : Nat, idxG (fun y => y == n) l 0 = (i : Int) ∧ i < l.length := by
  rcases idxG_ge (p := fun y => y == n) l 0 with ⟨h1, _⟩ | ⟨i, _, h2, h3, _⟩
  · rw [h1] at h; cases h
  · exact ⟨i, h2, by simp at h3; omega⟩
def plR (m : RfS) (n : Int) : Int := idxG (fun y => y == n) m.crew.nodes 0
def preR (m : RfS) (n v k : Int) (d : Dig) : RfS × Int :=
  bif decide (plR m n < 0) then (m, 110) else bif !viewB v then (m, 190) else bif leaderI m.crew v == n then (m, 2) else bif !inR m k then (m, 150) else
  bif saidI ((slR m (ixR m k)).pre.getD (plR m n).toNat default) v d != 0 then (m, saidI ((slR m (ixR m k)).pre.getD (plR m n).toNat default) v d) else
  (lookR (setL m (ixR m k) (RSlot.mk (slR m (ixR m k)).last ((slR m (ixR m k)).pre.set (plR m n).toNat (RVt.mk true v d)) (slR m (ixR m k)).com (slR m (ixR m k)).p (slR m (ixR m k)).q)) (ixR m k), 0)
def comR (m : RfS) (n v k : Int) (d : Dig) : RfS × Int :=
  bif decide (plR m n < 0) then (m, 110) else bif !viewB v then (m, 190) else bif !inR m k then (m, 150) else
  bif saidI ((slR m (ixR m k)).com.getD (plR m n).toNat default) v d != 0 then (m, saidI ((slR m (ixR m k)).com.getD (plR m n).toNat default) v d) else
  (setL m (ixR m k) (RSlot.mk (slR m (ixR m k)).last (slR m (ixR m k)).pre ((slR m (ixR m k)).com.set (plR m n).toNat (RVt.mk true v d)) (slR m (ixR m k)).p (slR m (ixR m k)).q), 0)
theorem preR_110 {m : RfS} {n v k : Int} {d : Dig} (h : decide (idxG (fun y => y == n) m.crew.nodes 0 < 0) = true) : preR m n v k d = (m, 110) := by unfold preR plR; rw [h]; rfl
theorem comR_110 {m : RfS} {n v k : Int} {d : Dig} (h : decide (idxG (fun y => y == n) m.crew.nodes 0 < 0) = true) : comR m n v k d = (m, 110) := by unfold comR plR; rw [h]; rfl
theorem RfN.cover {G G' : Gh} {b lb so so' cap cap' : Nat} {O O' B H : List (Nat × Obj)} {m m' : RfS} {vn vn' : Value} {lc lc' : List Value} {R R' : List RowR} {bl : List Bx} (h : RfN G b O m vn lb so cap lc R H) (h' : RfN G' b O' m' vn' lb so' cap' lc' R' H) :
    ∀ k ∈ O.map (·.1), k ∈ bl.map (fun x : Bx => x.1) ∨ k ∈ (O' ++ B).map (·.1) := by
  intro k hk
  rw [h.e] at hk; rw [h'.e]
  right
  simp only [List.map_cons, List.map_append, List.mem_cons, List.mem_append] at hk ⊢
  rcases hk with hk | hk | hk
  · exact .inl (.inl hk)
  · exact .inl (.inr (.inl hk))
  · exact .inl (.inr (.inr hk))
theorem co68 : callOk Tryz.prog 68 = true := by kernel_rfl
theorem so66 : structOk Tryz.prog 66 [(0, 1), (1, 1), (2, 32)] = true := by kernel_rfl
theorem co70 : callOk Tryz.prog 70 = true := by kernel_rfl
theorem co71 : callOk Tryz.prog 71 = true := by kernel_rfl
theorem co72 : callOk Tryz.prog 72 = true := by kernel_rfl
theorem co74 : callOk Tryz.prog 74 = true := by kernel_rfl
theorem rlook_ret (G0 : Gh) (w0 : World) (hw : Holds G0 w0) (bm : Nat) (Om : List (Nat × Obj)) (m : RfS) (hOm : ∀ x ∈ Om, w0.heap[x.1]? = some x.2 ∧ G0 x.1 = none) (hdm : (Om.map (·.1)).Nodup) (hm : RfO G0 bm Om m) (i0 : Nat) (hi0 : i0 < m.l.length) :
  RetT Tryz.prog 71 #[.pointer (some ⟨bm, 0, none⟩), .int .i64 ((i0 : Nat) : Int)] G0 w0 (List.map (·.1) Om) (fun G O v_ => RfO G bm O (lookR m i0) ∧ v_ = .tuple #[]) := by
 have hC := Cx.refl hw
 have hB : Bxs G0 w0 w0.heap.size [] := Bxs.nil _ _ _
 have hC := Cx.reflH Om (List.map (·.1) Om) hw (fun x hx => ⟨(hOm x hx).1, (hOm x hx).2, List.mem_map.2 ⟨x, hx, rfl⟩⟩) hdm
 replace hC : Cx w0 G0 G0 w0 ⟨(List.map (·.1) Om), (Om ++ [])⟩ := by simpa using hC
 have hB : Bxs G0 w0 w0.heap.size [] ⟨(List.map (·.1) Om), (Om ++ [])⟩ := Bxs.nil _ _ _
 have OKm := hm.1
 obtain ⟨v1, lb2, so3, cp4, lc5, R6, H7, hN8⟩ := hm.names
 have hn9 := hN8.n
 obtain ⟨A10, cap11, rfl⟩ := hn9.form
 refine callsOfN Tryz.func71 rfl _ Tryz.ntmps71 rfl _ (argsCons (argsCons argsNil (t := 0) rfl) (t := 1) rfl) ?_; intro Q0 hQ hN
 refine wcSeq <| wcRegion <| M_ rfl <| M_ rfl ?_
 refine wlCallS hC hB rfl co76 rfl rfl (RetS.lend hC (fun G_ hg_ hh_ hL_ => rprep_ret _ _ hh_ bm Om m (fun y hy => hL_ y (List.mem_append_left _ hy)) (hN8.mono hg_).rfo i0 hi0)) ?_; intro w hk hC hB
 refine wlThen ?_
 cases h12 : ((prepR m i0))
 ·
  refine wcCondF rfl <| wcSkip ?_
  exact fun ac_ ha => hN _ _ _ (results0 ha rfl) ha.df (endT hC Om ⟨[], .refl _⟩ ⟨(by have e_ : (lookR m i0) = m := (by simp only [lookR, h12, ta_]); rw [e_]; exact hN8.rfo), rfl⟩)
 ·
  refine wcCondT rfl ?_
  refine wcDrawS 16 [0, 1, 3, 7, 0, 0, 32, 96, 224, 0, 992, 2016, 4064, 8191, 16383, 32767] fmix (by kernel_rfl) (by kernel_rfl) rfl hC hB ?_; intro w hC hB
  refine D_ 0 rfl rfl (fun _ => opMove rfl) <| D_ 1 rfl rfl (fun _ => opNilCheck rfl) <| D_ 2 rfl rfl (fun _ => (opFieldAddr rfl fo64_3)) <| E_ 3 rfl rfl (opLoadOne (v := (.slice (some ⟨lb2, so3, none⟩) 8 cp4)) rfl (hN8.cell (fun x hx => (hC.held x (List.mem_append_left _ hx)).1) (o := 4) rfl) one62) <| D_ 4 rfl rfl (fun _ => opMove rfl) <| D_ 5 rfl rfl (fun _ => opMove rfl) <| D_ 6 rfl rfl (fun _ => opNilCheck rfl) <| D_ 7 rfl rfl (fun _ => (opFieldAddr rfl fo64_3)) <| E_ 8 rfl rfl (opLoadOne (v := (.slice (some ⟨lb2, so3, none⟩) 8 cp4)) rfl (hN8.cell (fun x hx => (hC.held x (List.mem_append_left _ hx)).1) (o := 4) rfl) one62) <| D_ 9 rfl rfl (fun _ => opMove rfl) ?_
  obtain ⟨x13, hx14⟩ : ∃ y_, m.l[i0]? = some y_ := ⟨_, List.getElem?_eq_getElem hi0⟩
  refine D_ 10 rfl rfl (fun _ => (opIndexAddr rfl rfl slo62 (hN8.lt hx14))) <| D_ 11 rfl rfl (fun _ => (opFieldAddr rfl fo69_0)) ?_
  obtain ⟨pv15, cv16, vq17, hE18⟩ := hN8.row hx14
  refine E_ 12 rfl rfl (opLoadRow (cs := x13.last.cells) rfl (hE18.last (fun x hx => (hC.held x (List.mem_append_left _ hx)).1)) row66 (by simp [cl_])) <| D_ 13 rfl rfl (fun _ => (opIndexAddr rfl rfl slo62 (hN8.lt hx14))) <| D_ 14 rfl rfl (fun _ => (opFieldAddr rfl fo69_3)) ?_
  refine wdAll [15] (by kernel_rfl) rfl ⟨wd1 rfl ?_, trivial⟩
  intro hGd
  refine wlRfP (y := x13.last) hN8 hC hB hx14 rfl rfl rfl sz66 rfl rfl ?_; intro O20 lc21 R22 w hC hB hN23 hK24
  refine wdNext hGd rfl (kpDrop rfl (kpDrop rfl (kpDrop rfl kpNil))) (Tk.nil _) ?_
  refine wdDone (by kernel_rfl) ?_
  exact fun ac_ ha => hN _ _ _ (results0 ha rfl) ha.df (endT hC O20 ⟨[], .refl _⟩ ⟨(by have e_ : (lookR m i0) = (setL m i0 (RSlot.mk x13.last x13.pre x13.com x13.last x13.q)) := (by simp only [lookR, slR_eq hx14, h12, ta_]); rw [e_]; exact hN23.rfo), rfl⟩)

theorem rpropose_ret (G0 : Gh) (w0 : World) (hw : Holds G0 w0) (bm : Nat) (Om : List (Nat × Obj)) (m : RfS) (hOm : ∀ x ∈ Om, w0.heap[x.1]? = some x.2 ∧ G0 x.1 = none) (hdm : (Om.map (·.1)).Nodup) (hm : RfO G0 bm Om m) (v : Int) (sq : Int) (d : Dig) (hsq : I6 sq) :
  RetT Tryz.prog 35 #[.pointer (some ⟨bm, 0, none⟩), .int .i64 v, .int .i64 sq, .agg d.cells.toArray] G0 w0 (List.map (·.1) Om) (fun G O v_ => RfO G bm O (propR m v sq d).1 ∧ v_ = .int .i64 (propR m v sq d).2) := by
 have hC := Cx.refl hw
 have hB : Bxs G0 w0 w0.heap.size [] := Bxs.nil _ _ _
 have hC := Cx.reflH Om (List.map (·.1) Om) hw (fun x hx => ⟨(hOm x hx).1, (hOm x hx).2, List.mem_map.2 ⟨x, hx, rfl⟩⟩) hdm
 replace hC : Cx w0 G0 G0 w0 ⟨(List.map (·.1) Om), (Om ++ [])⟩ := by simpa using hC
 have hB : Bxs G0 w0 w0.heap.size [] ⟨(List.map (·.1) Om), (Om ++ [])⟩ := Bxs.nil _ _ _
 have OKm := hm.1
 obtain ⟨v1, lb2, so3, cp4, lc5, R6, H7, hN8⟩ := hm.names
 have hn9 := hN8.n
 obtain ⟨A10, cap11, rfl⟩ := hn9.form
 refine callsOf Tryz.func35 rfl _ Tryz.ntmps35 rfl _ (argsCons (argsCons (argsCons (argsCons argsNil (t := 0) rfl) (t := 1) rfl) (t := 2) rfl) (t := 3) rfl) ?_; intro Q0 hQ
 refine wcSeq <| wcRegion ?_
 refine wlBox (cs := d.cells) hC hB rfl rfl rfl ?_; intro b12 w hk hC hB
 refine A_ rfl ?_
 refine wlThen (wcSeq (wcSeq (wcRegion ?_)))
 refine M_ rfl ?_
 refine wlCallS hC hB rfl co68 rfl rfl (rviewMay_ret _ _ hC.holds v) ?_; intro w hk hC hB
 refine V_ (opNot rfl) <| wlThen ?_
 cases h13 : (viewB v)
 ·
  refine wcCondT rfl <| wcSeq <| wcRegion <| A_ rfl <| wlThen <| wcRet ?_
  exact r1_ hQ rfl rfl (endT hC Om ⟨[], .refl _⟩ ⟨(by have e_ : (propR m v sq d).1 = m := (by simp only [propR, h13, ta_]); rw [e_]; exact hN8.rfo), (congrArg (Value.int .i64) (by simp only [propR, h13, ta_]))⟩)
 ·
  refine wcCondF rfl <| wcSkip <| wcOf ?_
  refine wcSeq (wcSeq (wcRegion ?_))
  refine M_ rfl <| M_ rfl ?_
  refine wlCallS hC hB rfl co69 rfl rfl (RetS.lend hC (fun G_ hg_ hh_ hL_ => inR_ret _ _ hh_ bm Om m (fun y hy => hL_ y (List.mem_append_left _ hy)) (hN8.mono hg_).rfo sq)) ?_; intro w hk hC hB
  refine V_ (opNot rfl) <| wlThen ?_
  cases h14 : ((inR m sq))
  ·
   refine wcCondT rfl <| wcSeq <| wcRegion <| A_ rfl <| wlThen <| wcRet ?_
   exact r1_ hQ rfl rfl (endT hC Om ⟨[], .refl _⟩ ⟨(by have e_ : (propR m v sq d).1 = m := (by simp only [propR, h13, h14, ta_]); rw [e_]; exact hN8.rfo), (congrArg (Value.int .i64) (by simp only [propR, h13, h14, ta_]))⟩)
  ·
   refine wcCondF rfl <| wcSkip <| wcOf <| wcSeq <| wcRegion <| M_ rfl <| M_ rfl <| V_ (opNilCheck rfl) <| V_ (opFieldAddr rfl fo64_2) <| V_ (opLoadOne (v := (.int .i64 m.low)) rfl (hN8.cell (fun x hx => (hC.held x (List.mem_append_left _ hx)).1) (o := 3) rfl) one3) <| V_ (opSub rfl rfl) <| V_ (OpVal.cast (v' := .int .i64 (((ixR m sq) : Nat) : Int)) (opSub rfl rfl) (congrArg (Value.int .i64) (ixR_eq OKm hsq h14))) <| A_ rfl ?_
   refine wlThen (wcSeq (wcRegion ?_))
   refine M_ rfl <| V_ (opNilCheck rfl) <| V_ (opFieldAddr rfl fo64_3) <| V_ (opLoadOne (v := (.slice (some ⟨lb2, so3, none⟩) 8 cp4)) rfl (hN8.cell (fun x hx => (hC.held x (List.mem_append_left _ hx)).1) (o := 4) rfl) one62) <| M_ rfl ?_
   obtain ⟨x15, hx16⟩ : ∃ y_, m.l[(ixR m sq)]? = some y_ := ⟨_, List.getElem?_eq_getElem (ixR_lt OKm hsq h14)⟩
   refine V_ (opIndexAddr rfl rfl slo62 (hN8.lt hx16)) <| V_ (opFieldAddr rfl fo69_0) ?_
   obtain ⟨pv17, cv18, vq19, hE20⟩ := hN8.row hx16
   refine V_ (opLoadRow (cs := x15.last.cells) rfl (hE20.last (fun x hx => (hC.held x (List.mem_append_left _ hx)).1)) row66 (by simp [cl_])) ?_
   refine wlAlloc hC hB zero66 rfl ?_; intro b22 w hk hC hB
   refine wlStore 0 (vs := x15.last.cells) (cs := ((.bool false) :: ((.int .i64 0) :: (Dig.zero.cells ++ [])))) (cs' := x15.last.cells) hC hB rfl rfl rfl sz66 rfl (by simp [cl_]) (by simp [cl_, Value.oneCell']) (by simp [cl_]) (by simp [cl_]) rfl ?_; intro w hC hB
   refine wlThen (wcSeq (wcSeq (wcRegion ?_)))
   refine V_ (opFieldAddr rfl fo66_0) <| V_ (opLoadOne (v := (.bool x15.last.has)) rfl (hB.cell (i := 0) rfl (by simp [cl_])) one4) <| M_ rfl ?_
   cases h23 : x15.last.has
   ·
    refine wlOff rfl rfl rfl rfl <| wlOff rfl rfl rfl rfl <| wlOff rfl rfl rfl rfl <| wlOff rfl rfl rfl rfl <| V_ (opPickF rfl rfl) <| wlThen <| wcCondF rfl <| wcSkip <| wcOf ?_
    refine wcSeq (wcSeq (wcRegion ?_))
    refine V_ (opFieldAddr rfl fo66_0) <| V_ (OpVal.cast (opLoadOne (v := (.bool x15.last.has)) rfl (hB.cell (i := 0) rfl (by simp [cl_])) one4) (congrArg Value.bool h23)) <| M_ rfl <| wlOff rfl rfl rfl rfl <| wlOff rfl rfl rfl rfl <| wlOff rfl rfl rfl rfl <| wlOff rfl rfl rfl rfl <| V_ (opPickF rfl rfl) <| M_ rfl <| wlOff rfl rfl rfl rfl <| wlOff rfl rfl rfl rfl <| wlOff rfl rfl rfl rfl <| wlOff rfl rfl rfl rfl <| V_ (opPickF rfl rfl) <| wlThen <| wcCondF rfl <| wcSkip <| wcOf <| wcSeq ?_
    refine wcDrawS 11 [0, 1, 3, 7, 0, 0, 0, 96, 255, 511, 1023] fmix (by kernel_rfl) (by kernel_rfl) rfl hC hB ?_; intro w hC hB
    refine D_ 0 rfl rfl (fun _ => opMove rfl) <| D_ 1 rfl rfl (fun _ => opNilCheck rfl) <| D_ 2 rfl rfl (fun _ => (opFieldAddr rfl fo64_3)) <| E_ 3 rfl rfl (opLoadOne (v := (.slice (some ⟨lb2, so3, none⟩) 8 cp4)) rfl (hN8.cell (fun x hx => (hC.held x (List.mem_append_left _ hx)).1) (o := 4) rfl) one62) <| D_ 4 rfl rfl (fun _ => opMove rfl) <| D_ 5 rfl rfl (fun _ => opMove rfl) <| E_ 6 rfl rfl (opLoadRow (cs := d.cells) rfl (hB.range (i := 1) (m := 32) rfl (by simp [cl_])) row37 (by simp [cl_])) <| D_ 7 rfl rfl (fun _ => (B_ (ps := [(0, .const (.bool true)), (1, .tmp 60), (2, .tmp 61)]) (cs := ((.bool true) :: ((.int .i64 v) :: (d.cells ++ [])))) so66 zero66 rfl rfl)) <| D_ 8 rfl rfl (fun _ => (opIndexAddr rfl rfl slo62 (hN8.lt hx16))) <| D_ 9 rfl rfl (fun _ => (opFieldAddr rfl fo69_0)) ?_
    refine wdAll [10] (by kernel_rfl) rfl ⟨wd1 rfl ?_, trivial⟩
    intro hGd
    refine wlRfLast (y := (RVt.mk true v d)) hN8 hC hB hx16 rfl rfl rfl sz66 rfl rfl ?_; intro O24 lc25 R26 w hC hB hN27 hK28
    refine wdNext hGd rfl (kpDrop rfl (kpDrop rfl kpNil)) (Tk.nil _) ?_
    refine wdDone (by kernel_rfl) <| wcOf <| wcSeq ?_
    refine wcDrawS 21 [0, 1, 3, 7, 0, 0, 32, 96, 224, 0, 992, 2016, 4064, 0, 0, 0, 57344, 131040, 262143, 524287, 1048575] fmix (by kernel_rfl) (by kernel_rfl) rfl hC hB ?_; intro w hC hB
    refine D_ 0 rfl rfl (fun _ => opMove rfl) <| D_ 1 rfl rfl (fun _ => opNilCheck rfl) <| D_ 2 rfl rfl (fun _ => (opFieldAddr rfl fo64_3)) <| E_ 3 rfl rfl (opLoadOne (v := (.slice (some ⟨lb2, so3, none⟩) 8 cp4)) rfl (hN27.cell (fun x hx => (hC.held x (List.mem_append_left _ hx)).1) (o := 4) rfl) one62) <| D_ 4 rfl rfl (fun _ => opMove rfl) <| D_ 5 rfl rfl (fun _ => opMove rfl) <| D_ 6 rfl rfl (fun _ => opNilCheck rfl) <| D_ 7 rfl rfl (fun _ => (opFieldAddr rfl fo64_3)) <| E_ 8 rfl rfl (opLoadOne (v := (.slice (some ⟨lb2, so3, none⟩) 8 cp4)) rfl (hN27.cell (fun x hx => (hC.held x (List.mem_append_left _ hx)).1) (o := 4) rfl) one62) <| D_ 9 rfl rfl (fun _ => opMove rfl) <| D_ 10 rfl rfl (fun _ => (opIndexAddr rfl rfl slo62 (hN27.lt (setL_at hx16)))) <| D_ 11 rfl rfl (fun _ => (opFieldAddr rfl fo69_4)) ?_
    obtain ⟨pv29, cv30, vq31, hE32⟩ := hN27.row (setL_at hx16)
    refine E_ 12 rfl rfl (opLoadOne (v := (.slice vq31.A vq31.n vq31.cap)) rfl (hE32.qc (fun x hx => (hC.held x (List.mem_append_left _ hx)).1)) one38) <| D_ 13 rfl rfl (fun _ => opMove rfl) <| E_ 14 rfl rfl (opLoadRow (cs := d.cells) rfl (hB.range (i := 1) (m := 32) rfl (by simp [cl_])) row37 (by simp [cl_])) <| D_ 15 rfl rfl (fun _ => opMove rfl) <| D_ 16 rfl rfl (fun _ => (B_ (ps := [(0, .tmp 78), (1, .tmp 79), (2, .tmp 80)]) (cs := ((.int .i64 sq) :: (d.cells ++ ((.int .i64 v) :: [])))) so44 zero44 rfl rfl)) ?_
    refine wdAll [17] (by kernel_rfl) rfl ⟨wd1 rfl ?_, trivial⟩
    intro hGd
    refine wlCallO (bl := [(b22, 66, x15.last.cells), (b12, 37, d.cells)]) (r := []) hC hB rfl co70 rfl rfl (RetO.lend hC (fun _ _ _ _ ⟨A, cap, e, h⟩ => ⟨A, cap, e, h.any (fun _ _ _ _ h => h)⟩) (fun G_ hg_ hh_ hL_ => with_ret _ _ hh_ _ (((RSlot.mk ((RVt.mk true v d)) x15.pre x15.com x15.p x15.q)).q) ((hE32.mono hg_).qs (fun y hy => hL_ y (List.mem_append_left _ hy))) ((Stand.mk sq d v)) (show x15.q.length ≤ 4 from OKm.q4 _ _ hx16))) ?_; rintro v38 G o36 w hk hC hB ⟨A34, cap35, rfl, hO37⟩
    replace hN27 := hN27.mono hk.gle
    refine wdNext hGd rfl (kpDrop rfl (kpDrop rfl (kpDrop rfl (kpKeep rfl kpNil)))) (Tk.cons (p := (_, fun w => OpVal _ _ _ w _ _)) (opLoadOne (v := (.slice (some ⟨lb2, so3, none⟩) 8 cp4)) rfl (hN27.cell (fun x hx => (hC.held x (List.mem_append_left _ hx)).1) (o := 4) rfl) one62) (Tk.nil _)) ?_
    refine D_ 18 rfl rfl (fun _ => (opIndexAddr rfl rfl slo62 (hN27.lt (setL_at hx16)))) <| D_ 19 rfl rfl (fun _ => (opFieldAddr rfl fo69_4)) ?_
    refine wdAll [20] (by kernel_rfl) rfl ⟨wd1 rfl ?_, trivial⟩
    intro hGd
    obtain ⟨O39, H40, hC, hB, hN41, hA42, hK43⟩ := RfN.take (bl := [(b22, 66, x15.last.cells), (b12, 37, d.cells)]) (r := []) hN27 hC hB (setL_at hx16) hO37
    refine wlRfQA (q := ((withR (((RSlot.mk ((RVt.mk true v d)) x15.pre x15.com x15.p x15.q)).q) ((Stand.mk sq d v))))) hN41 hC hB (setL_at hx16) hA42 (withR_len (show x15.q.length ≤ 4 from OKm.q4 _ _ hx16)) rfl rfl rfl sz38 rfl ?_; intro O44 lc45 R46 w hC hB hN47 hK48
    refine wdNext hGd rfl (kpDrop rfl kpNil) (Tk.nil _) ?_
    refine wdDone (by kernel_rfl) <| wcOf <| wcSeq <| wcRegion <| M_ rfl <| M_ rfl ?_
    refine wlCallC (O := O44) (B := []) hC hB rfl co71 rfl rfl (rlook_ret _ _ hC.holds bm O44 ((setL ((setL m ((ixR m sq)) (RSlot.mk ((RVt.mk true v d)) x15.pre x15.com x15.p x15.q))) ((ixR m sq)) (RSlot.mk (((RSlot.mk ((RVt.mk true v d)) x15.pre x15.com x15.p x15.q)).last) (((RSlot.mk ((RVt.mk true v d)) x15.pre x15.com x15.p x15.q)).pre) (((RSlot.mk ((RVt.mk true v d)) x15.pre x15.com x15.p x15.q)).com) (((RSlot.mk ((RVt.mk true v d)) x15.pre x15.com x15.p x15.q)).p) (((withR (((RSlot.mk ((RVt.mk true v d)) x15.pre x15.com x15.p x15.q)).q) ((Stand.mk sq d v)))))))) hC.chunkHeld hC.chunkNd hN47.rfo ((ixR m sq)) (setL_len (setL_len (ixR_lt OKm hsq h14)))) ?_; rintro v49 G O50 w hg hC hB ⟨hs51, rfl⟩
    obtain ⟨v52, lb53, so54, cp55, lc56, R57, H58, hN59⟩ := hs51.names
    have hn60 := hN59.n
    obtain ⟨A61, cap62, rfl⟩ := hn60.form
    refine wlThen (wcSeq (wcRegion ?_))
    refine A_ rfl <| wlThen <| wcRet ?_
    exact r1_ hQ rfl rfl (endT hC O50 ⟨[], .refl _⟩ ⟨(by have e_ : (propR m v sq d).1 = (lookR ((setL ((setL m ((ixR m sq)) (RSlot.mk ((RVt.mk true v d)) x15.pre x15.com x15.p x15.q))) ((ixR m sq)) (RSlot.mk (((RSlot.mk ((RVt.mk true v d)) x15.pre x15.com x15.p x15.q)).last) (((RSlot.mk ((RVt.mk true v d)) x15.pre x15.com x15.p x15.q)).pre) (((RSlot.mk ((RVt.mk true v d)) x15.pre x15.com x15.p x15.q)).com) (((RSlot.mk ((RVt.mk true v d)) x15.pre x15.com x15.p x15.q)).p) (((withR (((RSlot.mk ((RVt.mk true v d)) x15.pre x15.com x15.p x15.q)).q) ((Stand.mk sq d v)))))))) ((ixR m sq))) := (by simp only [propR, slR_eq hx16, h13, h14, h23, ta_]); rw [e_]; exact hN59.rfo), (congrArg (Value.int .i64) (by simp only [propR, slR_eq hx16, h13, h14, h23, ta_]))⟩)
   ·
    refine wlOn rfl rfl <| V_ (opFieldAddr rfl fo66_1) <| wlOn rfl rfl <| V_ (opLoadOne (v := (.int .i64 x15.last.view)) rfl (hB.cell (i := 0) rfl (by simp [cl_])) one3) <| wlOn rfl rfl <| M_ rfl <| wlOn rfl rfl <| V_ (opGtr rfl rfl) <| V_ (opPickT rfl rfl) <| wlThen ?_
    cases h63 : decide (v < x15.last.view)
    ·
     refine wcCondF rfl <| wcSkip <| wcOf ?_
     refine wcSeq (wcSeq (wcRegion ?_))
     refine V_ (opFieldAddr rfl fo66_0) <| V_ (OpVal.cast (opLoadOne (v := (.bool x15.last.has)) rfl (hB.cell (i := 0) rfl (by simp [cl_])) one4) (congrArg Value.bool h23)) <| M_ rfl <| wlOn rfl rfl <| V_ (opFieldAddr rfl fo66_1) <| wlOn rfl rfl <| V_ (opLoadOne (v := (.int .i64 x15.last.view)) rfl (hB.cell (i := 0) rfl (by simp [cl_])) one3) <| wlOn rfl rfl <| M_ rfl <| wlOn rfl rfl <| V_ (opEql rfl rfl) <| V_ (opPickT rfl rfl) <| M_ rfl ?_
     cases h64 : x15.last.view == v
     ·
      refine wlOff rfl rfl rfl rfl <| wlOff rfl rfl rfl rfl <| wlOff rfl rfl rfl rfl <| wlOff rfl rfl rfl rfl <| V_ (opPickF rfl rfl) <| wlThen <| wcCondF rfl <| wcSkip <| wcOf <| wcSeq ?_
      refine wcDrawS 11 [0, 1, 3, 7, 0, 0, 0, 96, 255, 511, 1023] fmix (by kernel_rfl) (by kernel_rfl) rfl hC hB ?_; intro w hC hB
      refine D_ 0 rfl rfl (fun _ => opMove rfl) <| D_ 1 rfl rfl (fun _ => opNilCheck rfl) <| D_ 2 rfl rfl (fun _ => (opFieldAddr rfl fo64_3)) <| E_ 3 rfl rfl (opLoadOne (v := (.slice (some ⟨lb2, so3, none⟩) 8 cp4)) rfl (hN8.cell (fun x hx => (hC.held x (List.mem_append_left _ hx)).1) (o := 4) rfl) one62) <| D_ 4 rfl rfl (fun _ => opMove rfl) <| D_ 5 rfl rfl (fun _ => opMove rfl) <| E_ 6 rfl rfl (opLoadRow (cs := d.cells) rfl (hB.range (i := 1) (m := 32) rfl (by simp [cl_])) row37 (by simp [cl_])) <| D_ 7 rfl rfl (fun _ => (B_ (ps := [(0, .const (.bool true)), (1, .tmp 60), (2, .tmp 61)]) (cs := ((.bool true) :: ((.int .i64 v) :: (d.cells ++ [])))) so66 zero66 rfl rfl)) <| D_ 8 rfl rfl (fun _ => (opIndexAddr rfl rfl slo62 (hN8.lt hx16))) <| D_ 9 rfl rfl (fun _ => (opFieldAddr rfl fo69_0)) ?_
      refine wdAll [10] (by kernel_rfl) rfl ⟨wd1 rfl ?_, trivial⟩
      intro hGd
      refine wlRfLast (y := (RVt.mk true v d)) hN8 hC hB hx16 rfl rfl rfl sz66 rfl rfl ?_; intro O65 lc66 R67 w hC hB hN68 hK69
      refine wdNext hGd rfl (kpDrop rfl (kpDrop rfl kpNil)) (Tk.nil _) ?_
      refine wdDone (by kernel_rfl) <| wcOf <| wcSeq ?_
      refine wcDrawS 21 [0, 1, 3, 7, 0, 0, 32, 96, 224, 0, 992, 2016, 4064, 0, 0, 0, 57344, 131040, 262143, 524287, 1048575] fmix (by kernel_rfl) (by kernel_rfl) rfl hC hB ?_; intro w hC hB
      refine D_ 0 rfl rfl (fun _ => opMove rfl) <| D_ 1 rfl rfl (fun _ => opNilCheck rfl) <| D_ 2 rfl rfl (fun _ => (opFieldAddr rfl fo64_3)) <| E_ 3 rfl rfl (opLoadOne (v := (.slice (some ⟨lb2, so3, none⟩) 8 cp4)) rfl (hN68.cell (fun x hx => (hC.held x (List.mem_append_left _ hx)).1) (o := 4) rfl) one62) <| D_ 4 rfl rfl (fun _ => opMove rfl) <| D_ 5 rfl rfl (fun _ => opMove rfl) <| D_ 6 rfl rfl (fun _ => opNilCheck rfl) <| D_ 7 rfl rfl (fun _ => (opFieldAddr rfl fo64_3)) <| E_ 8 rfl rfl (opLoadOne (v := (.slice (some ⟨lb2, so3, none⟩) 8 cp4)) rfl (hN68.cell (fun x hx => (hC.held x (List.mem_append_left _ hx)).1) (o := 4) rfl) one62) <| D_ 9 rfl rfl (fun _ => opMove rfl) <| D_ 10 rfl rfl (fun _ => (opIndexAddr rfl rfl slo62 (hN68.lt (setL_at hx16)))) <| D_ 11 rfl rfl (fun _ => (opFieldAddr rfl fo69_4)) ?_
      obtain ⟨pv70, cv71, vq72, hE73⟩ := hN68.row (setL_at hx16)
      refine E_ 12 rfl rfl (opLoadOne (v := (.slice vq72.A vq72.n vq72.cap)) rfl (hE73.qc (fun x hx => (hC.held x (List.mem_append_left _ hx)).1)) one38) <| D_ 13 rfl rfl (fun _ => opMove rfl) <| E_ 14 rfl rfl (opLoadRow (cs := d.cells) rfl (hB.range (i := 1) (m := 32) rfl (by simp [cl_])) row37 (by simp [cl_])) <| D_ 15 rfl rfl (fun _ => opMove rfl) <| D_ 16 rfl rfl (fun _ => (B_ (ps := [(0, .tmp 78), (1, .tmp 79), (2, .tmp 80)]) (cs := ((.int .i64 sq) :: (d.cells ++ ((.int .i64 v) :: [])))) so44 zero44 rfl rfl)) ?_
      refine wdAll [17] (by kernel_rfl) rfl ⟨wd1 rfl ?_, trivial⟩
      intro hGd
      refine wlCallO (bl := [(b22, 66, x15.last.cells), (b12, 37, d.cells)]) (r := []) hC hB rfl co70 rfl rfl (RetO.lend hC (fun _ _ _ _ ⟨A, cap, e, h⟩ => ⟨A, cap, e, h.any (fun _ _ _ _ h => h)⟩) (fun G_ hg_ hh_ hL_ => with_ret _ _ hh_ _ (((RSlot.mk ((RVt.mk true v d)) x15.pre x15.com x15.p x15.q)).q) ((hE73.mono hg_).qs (fun y hy => hL_ y (List.mem_append_left _ hy))) ((Stand.mk sq d v)) (show x15.q.length ≤ 4 from OKm.q4 _ _ hx16))) ?_; rintro v79 G o77 w hk hC hB ⟨A75, cap76, rfl, hO78⟩
      replace hN68 := hN68.mono hk.gle
      refine wdNext hGd rfl (kpDrop rfl (kpDrop rfl (kpDrop rfl (kpKeep rfl kpNil)))) (Tk.cons (p := (_, fun w => OpVal _ _ _ w _ _)) (opLoadOne (v := (.slice (some ⟨lb2, so3, none⟩) 8 cp4)) rfl (hN68.cell (fun x hx => (hC.held x (List.mem_append_left _ hx)).1) (o := 4) rfl) one62) (Tk.nil _)) ?_
      refine D_ 18 rfl rfl (fun _ => (opIndexAddr rfl rfl slo62 (hN68.lt (setL_at hx16)))) <| D_ 19 rfl rfl (fun _ => (opFieldAddr rfl fo69_4)) ?_
      refine wdAll [20] (by kernel_rfl) rfl ⟨wd1 rfl ?_, trivial⟩
      intro hGd
      obtain ⟨O80, H81, hC, hB, hN82, hA83, hK84⟩ := RfN.take (bl := [(b22, 66, x15.last.cells), (b12, 37, d.cells)]) (r := []) hN68 hC hB (setL_at hx16) hO78
      refine wlRfQA (q := ((withR (((RSlot.mk ((RVt.mk true v d)) x15.pre x15.com x15.p x15.q)).q) ((Stand.mk sq d v))))) hN82 hC hB (setL_at hx16) hA83 (withR_len (show x15.q.length ≤ 4 from OKm.q4 _ _ hx16)) rfl rfl rfl sz38 rfl ?_; intro O85 lc86 R87 w hC hB hN88 hK89
      refine wdNext hGd rfl (kpDrop rfl kpNil) (Tk.nil _) ?_
      refine wdDone (by kernel_rfl) <| wcOf <| wcSeq <| wcRegion <| M_ rfl <| M_ rfl ?_
      refine wlCallC (O := O85) (B := []) hC hB rfl co71 rfl rfl (rlook_ret _ _ hC.holds bm O85 ((setL ((setL m ((ixR m sq)) (RSlot.mk ((RVt.mk true v d)) x15.pre x15.com x15.p x15.q))) ((ixR m sq)) (RSlot.mk (((RSlot.mk ((RVt.mk true v d)) x15.pre x15.com x15.p x15.q)).last) (((RSlot.mk ((RVt.mk true v d)) x15.pre x15.com x15.p x15.q)).pre) (((RSlot.mk ((RVt.mk true v d)) x15.pre x15.com x15.p x15.q)).com) (((RSlot.mk ((RVt.mk true v d)) x15.pre x15.com x15.p x15.q)).p) (((withR (((RSlot.mk ((RVt.mk true v d)) x15.pre x15.com x15.p x15.q)).q) ((Stand.mk sq d v)))))))) hC.chunkHeld hC.chunkNd hN88.rfo ((ixR m sq)) (setL_len (setL_len (ixR_lt OKm hsq h14)))) ?_; rintro v90 G O91 w hg hC hB ⟨hs92, rfl⟩
      obtain ⟨v93, lb94, so95, cp96, lc97, R98, H99, hN100⟩ := hs92.names
      have hn101 := hN100.n
      obtain ⟨A102, cap103, rfl⟩ := hn101.form
      refine wlThen (wcSeq (wcRegion ?_))
      refine A_ rfl <| wlThen <| wcRet ?_
      exact r1_ hQ rfl rfl (endT hC O91 ⟨[], .refl _⟩ ⟨(by have e_ : (propR m v sq d).1 = (lookR ((setL ((setL m ((ixR m sq)) (RSlot.mk ((RVt.mk true v d)) x15.pre x15.com x15.p x15.q))) ((ixR m sq)) (RSlot.mk (((RSlot.mk ((RVt.mk true v d)) x15.pre x15.com x15.p x15.q)).last) (((RSlot.mk ((RVt.mk true v d)) x15.pre x15.com x15.p x15.q)).pre) (((RSlot.mk ((RVt.mk true v d)) x15.pre x15.com x15.p x15.q)).com) (((RSlot.mk ((RVt.mk true v d)) x15.pre x15.com x15.p x15.q)).p) (((withR (((RSlot.mk ((RVt.mk true v d)) x15.pre x15.com x15.p x15.q)).q) ((Stand.mk sq d v)))))))) ((ixR m sq))) := (by simp only [propR, slR_eq hx16, h13, h14, h23, h63, h64, ta_]); rw [e_]; exact hN100.rfo), (congrArg (Value.int .i64) (by simp only [propR, slR_eq hx16, h13, h14, h23, h63, h64, ta_]))⟩)
     ·
      refine wlOn rfl rfl <| V_ (opFieldAddr rfl fo66_2) <| wlOn rfl rfl <| V_ (opLoadRow (cs := x15.last.dig.cells) rfl (hB.range (i := 0) (m := 32) rfl (by simp [cl_])) row37 (by simp [cl_])) <| wlOn rfl rfl <| V_ (opLoadRow (cs := d.cells) rfl (hB.range (i := 1) (m := 32) rfl (by simp [cl_])) row37 (by simp [cl_])) <| wlOn rfl rfl <| V_ (opNeRow (eq37 _ x15.last.dig d) eg37 rfl rfl) <| V_ (opPickT rfl rfl) <| wlThen ?_
      cases h104 : decide (x15.last.dig = d)
      ·
       refine wcCondT rfl <| wcSeq <| wcRegion <| A_ rfl <| wlThen <| wcRet ?_
       exact r1_ hQ rfl rfl (endT hC Om ⟨[], .refl _⟩ ⟨(by have e_ : (propR m v sq d).1 = m := (by simp only [propR, slR_eq hx16, h13, h14, h23, h63, h64, h104, ta_]); rw [e_]; exact hN8.rfo), (congrArg (Value.int .i64) (by simp only [propR, slR_eq hx16, h13, h14, h23, h63, h64, h104, ta_]))⟩)
      ·
       refine wcCondF rfl <| wcSkip <| wcOf <| wcSeq ?_
       refine wcDrawS 11 [0, 1, 3, 7, 0, 0, 0, 96, 255, 511, 1023] fmix (by kernel_rfl) (by kernel_rfl) rfl hC hB ?_; intro w hC hB
       refine D_ 0 rfl rfl (fun _ => opMove rfl) <| D_ 1 rfl rfl (fun _ => opNilCheck rfl) <| D_ 2 rfl rfl (fun _ => (opFieldAddr rfl fo64_3)) <| E_ 3 rfl rfl (opLoadOne (v := (.slice (some ⟨lb2, so3, none⟩) 8 cp4)) rfl (hN8.cell (fun x hx => (hC.held x (List.mem_append_left _ hx)).1) (o := 4) rfl) one62) <| D_ 4 rfl rfl (fun _ => opMove rfl) <| D_ 5 rfl rfl (fun _ => opMove rfl) <| E_ 6 rfl rfl (opLoadRow (cs := d.cells) rfl (hB.range (i := 1) (m := 32) rfl (by simp [cl_])) row37 (by simp [cl_])) <| D_ 7 rfl rfl (fun _ => (B_ (ps := [(0, .const (.bool true)), (1, .tmp 60), (2, .tmp 61)]) (cs := ((.bool true) :: ((.int .i64 v) :: (d.cells ++ [])))) so66 zero66 rfl rfl)) <| D_ 8 rfl rfl (fun _ => (opIndexAddr rfl rfl slo62 (hN8.lt hx16))) <| D_ 9 rfl rfl (fun _ => (opFieldAddr rfl fo69_0)) ?_
       refine wdAll [10] (by kernel_rfl) rfl ⟨wd1 rfl ?_, trivial⟩
       intro hGd
       refine wlRfLast (y := (RVt.mk true v d)) hN8 hC hB hx16 rfl rfl rfl sz66 rfl rfl ?_; intro O105 lc106 R107 w hC hB hN108 hK109
       refine wdNext hGd rfl (kpDrop rfl (kpDrop rfl kpNil)) (Tk.nil _) ?_
       refine wdDone (by kernel_rfl) <| wcOf <| wcSeq ?_
       refine wcDrawS 21 [0, 1, 3, 7, 0, 0, 32, 96, 224, 0, 992, 2016, 4064, 0, 0, 0, 57344, 131040, 262143, 524287, 1048575] fmix (by kernel_rfl) (by kernel_rfl) rfl hC hB ?_; intro w hC hB
       refine D_ 0 rfl rfl (fun _ => opMove rfl) <| D_ 1 rfl rfl (fun _ => opNilCheck rfl) <| D_ 2 rfl rfl (fun _ => (opFieldAddr rfl fo64_3)) <| E_ 3 rfl rfl (opLoadOne (v := (.slice (some ⟨lb2, so3, none⟩) 8 cp4)) rfl (hN108.cell (fun x hx => (hC.held x (List.mem_append_left _ hx)).1) (o := 4) rfl) one62) <| D_ 4 rfl rfl (fun _ => opMove rfl) <| D_ 5 rfl rfl (fun _ => opMove rfl) <| D_ 6 rfl rfl (fun _ => opNilCheck rfl) <| D_ 7 rfl rfl (fun _ => (opFieldAddr rfl fo64_3)) <| E_ 8 rfl rfl (opLoadOne (v := (.slice (some ⟨lb2, so3, none⟩) 8 cp4)) rfl (hN108.cell (fun x hx => (hC.held x (List.mem_append_left _ hx)).1) (o := 4) rfl) one62) <| D_ 9 rfl rfl (fun _ => opMove rfl) <| D_ 10 rfl rfl (fun _ => (opIndexAddr rfl rfl slo62 (hN108.lt (setL_at hx16)))) <| D_ 11 rfl rfl (fun _ => (opFieldAddr rfl fo69_4)) ?_
       obtain ⟨pv110, cv111, vq112, hE113⟩ := hN108.row (setL_at hx16)
       refine E_ 12 rfl rfl (opLoadOne (v := (.slice vq112.A vq112.n vq112.cap)) rfl (hE113.qc (fun x hx => (hC.held x (List.mem_append_left _ hx)).1)) one38) <| D_ 13 rfl rfl (fun _ => opMove rfl) <| E_ 14 rfl rfl (opLoadRow (cs := d.cells) rfl (hB.range (i := 1) (m := 32) rfl (by simp [cl_])) row37 (by simp [cl_])) <| D_ 15 rfl rfl (fun _ => opMove rfl) <| D_ 16 rfl rfl (fun _ => (B_ (ps := [(0, .tmp 78), (1, .tmp 79), (2, .tmp 80)]) (cs := ((.int .i64 sq) :: (d.cells ++ ((.int .i64 v) :: [])))) so44 zero44 rfl rfl)) ?_
       refine wdAll [17] (by kernel_rfl) rfl ⟨wd1 rfl ?_, trivial⟩
       intro hGd
       refine wlCallO (bl := [(b22, 66, x15.last.cells), (b12, 37, d.cells)]) (r := []) hC hB rfl co70 rfl rfl (RetO.lend hC (fun _ _ _ _ ⟨A, cap, e, h⟩ => ⟨A, cap, e, h.any (fun _ _ _ _ h => h)⟩) (fun G_ hg_ hh_ hL_ => with_ret _ _ hh_ _ (((RSlot.mk ((RVt.mk true v d)) x15.pre x15.com x15.p x15.q)).q) ((hE113.mono hg_).qs (fun y hy => hL_ y (List.mem_append_left _ hy))) ((Stand.mk sq d v)) (show x15.q.length ≤ 4 from OKm.q4 _ _ hx16))) ?_; rintro v119 G o117 w hk hC hB ⟨A115, cap116, rfl, hO118⟩
       replace hN108 := hN108.mono hk.gle
       refine wdNext hGd rfl (kpDrop rfl (kpDrop rfl (kpDrop rfl (kpKeep rfl kpNil)))) (Tk.cons (p := (_, fun w => OpVal _ _ _ w _ _)) (opLoadOne (v := (.slice (some ⟨lb2, so3, none⟩) 8 cp4)) rfl (hN108.cell (fun x hx => (hC.held x (List.mem_append_left _ hx)).1) (o := 4) rfl) one62) (Tk.nil _)) ?_
       refine D_ 18 rfl rfl (fun _ => (opIndexAddr rfl rfl slo62 (hN108.lt (setL_at hx16)))) <| D_ 19 rfl rfl (fun _ => (opFieldAddr rfl fo69_4)) ?_
       refine wdAll [20] (by kernel_rfl) rfl ⟨wd1 rfl ?_, trivial⟩
       intro hGd
       obtain ⟨O120, H121, hC, hB, hN122, hA123, hK124⟩ := RfN.take (bl := [(b22, 66, x15.last.cells), (b12, 37, d.cells)]) (r := []) hN108 hC hB (setL_at hx16) hO118
       refine wlRfQA (q := ((withR (((RSlot.mk ((RVt.mk true v d)) x15.pre x15.com x15.p x15.q)).q) ((Stand.mk sq d v))))) hN122 hC hB (setL_at hx16) hA123 (withR_len (show x15.q.length ≤ 4 from OKm.q4 _ _ hx16)) rfl rfl rfl sz38 rfl ?_; intro O125 lc126 R127 w hC hB hN128 hK129
       refine wdNext hGd rfl (kpDrop rfl kpNil) (Tk.nil _) ?_
       refine wdDone (by kernel_rfl) <| wcOf <| wcSeq <| wcRegion <| M_ rfl <| M_ rfl ?_
       refine wlCallC (O := O125) (B := []) hC hB rfl co71 rfl rfl (rlook_ret _ _ hC.holds bm O125 ((setL ((setL m ((ixR m sq)) (RSlot.mk ((RVt.mk true v d)) x15.pre x15.com x15.p x15.q))) ((ixR m sq)) (RSlot.mk (((RSlot.mk ((RVt.mk true v d)) x15.pre x15.com x15.p x15.q)).last) (((RSlot.mk ((RVt.mk true v d)) x15.pre x15.com x15.p x15.q)).pre) (((RSlot.mk ((RVt.mk true v d)) x15.pre x15.com x15.p x15.q)).com) (((RSlot.mk ((RVt.mk true v d)) x15.pre x15.com x15.p x15.q)).p) (((withR (((RSlot.mk ((RVt.mk true v d)) x15.pre x15.com x15.p x15.q)).q) ((Stand.mk sq d v)))))))) hC.chunkHeld hC.chunkNd hN128.rfo ((ixR m sq)) (setL_len (setL_len (ixR_lt OKm hsq h14)))) ?_; rintro v130 G O131 w hg hC hB ⟨hs132, rfl⟩
       obtain ⟨v133, lb134, so135, cp136, lc137, R138, H139, hN140⟩ := hs132.names
       have hn141 := hN140.n
       obtain ⟨A142, cap143, rfl⟩ := hn141.form
       refine wlThen (wcSeq (wcRegion ?_))
       refine A_ rfl <| wlThen <| wcRet ?_
       exact r1_ hQ rfl rfl (endT hC O131 ⟨[], .refl _⟩ ⟨(by have e_ : (propR m v sq d).1 = (lookR ((setL ((setL m ((ixR m sq)) (RSlot.mk ((RVt.mk true v d)) x15.pre x15.com x15.p x15.q))) ((ixR m sq)) (RSlot.mk (((RSlot.mk ((RVt.mk true v d)) x15.pre x15.com x15.p x15.q)).last) (((RSlot.mk ((RVt.mk true v d)) x15.pre x15.com x15.p x15.q)).pre) (((RSlot.mk ((RVt.mk true v d)) x15.pre x15.com x15.p x15.q)).com) (((RSlot.mk ((RVt.mk true v d)) x15.pre x15.com x15.p x15.q)).p) (((withR (((RSlot.mk ((RVt.mk true v d)) x15.pre x15.com x15.p x15.q)).q) ((Stand.mk sq d v)))))))) ((ixR m sq))) := (by simp only [propR, slR_eq hx16, h13, h14, h23, h63, h64, h104, ta_]); rw [e_]; exact hN140.rfo), (congrArg (Value.int .i64) (by simp only [propR, slR_eq hx16, h13, h14, h23, h63, h64, h104, ta_]))⟩)
    ·
     refine wcCondT rfl <| wcSeq <| wcRegion <| A_ rfl <| wlThen <| wcRet ?_
     exact r1_ hQ rfl rfl (endT hC Om ⟨[], .refl _⟩ ⟨(by have e_ : (propR m v sq d).1 = m := (by simp only [propR, slR_eq hx16, h13, h14, h23, h63, ta_]); rw [e_]; exact hN8.rfo), (congrArg (Value.int .i64) (by simp only [propR, slR_eq hx16, h13, h14, h23, h63, ta_]))⟩)

theorem rprepare_ret (G0 : Gh) (w0 : World) (hw : Holds G0 w0) (bm : Nat) (Om : List (Nat × Obj)) (m : RfS) (hOm : ∀ x ∈ Om, w0.heap[x.1]? = some x.2 ∧ G0 x.1 = none) (hdm : (Om.map (·.1)).Nodup) (hm : RfO G0 bm Om m) (n : Int) (v : Int) (sq : Int) (d : Dig) (hsq : I6 sq) :
  RetT Tryz.prog 36 #[.pointer (some ⟨bm, 0, none⟩), .int .i64 n, .int .i64 v, .int .i64 sq, .agg d.cells.toArray] G0 w0 (List.map (·.1) Om) (fun G O v_ => RfO G bm O (preR m n v sq d).1 ∧ v_ = .int .i64 (preR m n v sq d).2) := by
 have hC := Cx.refl hw
 have hB : Bxs G0 w0 w0.heap.size [] := Bxs.nil _ _ _
 have hC := Cx.reflH Om (List.map (·.1) Om) hw (fun x hx => ⟨(hOm x hx).1, (hOm x hx).2, List.mem_map.2 ⟨x, hx, rfl⟩⟩) hdm
 replace hC : Cx w0 G0 G0 w0 ⟨(List.map (·.1) Om), (Om ++ [])⟩ := by simpa using hC
 have hB : Bxs G0 w0 w0.heap.size [] ⟨(List.map (·.1) Om), (Om ++ [])⟩ := Bxs.nil _ _ _
 have OKm := hm.1
 obtain ⟨v1, lb2, so3, cp4, lc5, R6, H7, hN8⟩ := hm.names
 have hn9 := hN8.n
 obtain ⟨A10, cap11, rfl⟩ := hn9.form
 refine callsOf Tryz.func36 rfl _ Tryz.ntmps36 rfl _ (argsCons (argsCons (argsCons (argsCons (argsCons argsNil (t := 0) rfl) (t := 1) rfl) (t := 2) rfl) (t := 3) rfl) (t := 4) rfl) ?_; intro Q0 hQ
 refine wcSeq <| wcRegion ?_
 refine wlBox (cs := d.cells) hC hB rfl rfl rfl ?_; intro b12 w hk hC hB
 refine A_ rfl ?_
 refine wlThen (wcSeq (wcRegion ?_))
 refine M_ rfl <| M_ rfl ?_
 refine wlCallS hC hB rfl co72 rfl rfl (RetS.lend hC (fun G_ hg_ hh_ hL_ => place_ret _ _ hh_ bm Om m (fun y hy => hL_ y (List.mem_append_left _ hy)) (hN8.mono hg_).rfo n)) ?_; intro w hk hC hB
 refine A_ rfl ?_
 refine wlThen (wcSeq (wcSeq (wcRegion ?_)))
 refine M_ rfl <| V_ (opLss rfl rfl) <| wlThen ?_
 cases h13 : decide (((idxG (fun y => y == n) m.crew.nodes 0)) < 0)
 ·
  obtain ⟨k0, hk0, hk1⟩ := idxP_nat h13
  rw [hk0]
  have hk2 := h13
  rw [hk0] at hk2
  refine wcCondF rfl <| wcSkip <| wcOf ?_
  refine wcSeq (wcSeq (wcRegion ?_))
  refine M_ rfl ?_
  refine wlCallS hC hB rfl co68 rfl rfl (rviewMay_ret _ _ hC.holds v) ?_; intro w hk hC hB
  refine V_ (opNot rfl) <| wlThen ?_
  cases h14 : (viewB v)
  ·
   refine wcCondT rfl <| wcSeq <| wcRegion <| A_ rfl <| wlThen <| wcRet ?_
   exact r1_ hQ rfl rfl (endT hC Om ⟨[], .refl _⟩ ⟨(by have e_ : (preR m n v sq d).1 = m := (by simp only [preR, plR, hk0, hk2, Int.toNat_natCast, h13, h14, ta_]); rw [e_]; exact hN8.rfo), (congrArg (Value.int .i64) (by simp only [preR, plR, hk0, hk2, Int.toNat_natCast, h13, h14, ta_]))⟩)
  ·
   refine wcCondF rfl <| wcSkip <| wcOf ?_
   refine wcSeq (wcSeq (wcRegion ?_))
   refine M_ rfl <| V_ (opNilCheck rfl) <| V_ (opFieldAddr rfl fo64_0) <| V_ (opLoadRow (cs := [(.int .i64 m.crew.faults), (.slice A10 m.crew.nodes.length cap11)]) rfl (hN8.crew (fun x hx => (hC.held x (List.mem_append_left _ hx)).1)) row24 rfl) <| M_ rfl ?_
   refine wlCallS hC hB rfl co73 rfl rfl (rleader_ret _ _ hC.holds _ m.crew (Crew.mkIs (x := m.crew) hn9) v) ?_; intro w hk hC hB
   refine M_ rfl <| V_ (opEql rfl rfl) <| wlThen ?_
   cases h15 : (((leaderI m.crew v))) == n
   ·
    refine wcCondF rfl <| wcSkip <| wcOf ?_
    refine wcSeq (wcSeq (wcRegion ?_))
    refine M_ rfl <| M_ rfl ?_
    refine wlCallS hC hB rfl co69 rfl rfl (RetS.lend hC (fun G_ hg_ hh_ hL_ => inR_ret _ _ hh_ bm Om m (fun y hy => hL_ y (List.mem_append_left _ hy)) (hN8.mono hg_).rfo sq)) ?_; intro w hk hC hB
    refine V_ (opNot rfl) <| wlThen ?_
    cases h16 : ((inR m sq))
    ·
     refine wcCondT rfl <| wcSeq <| wcRegion <| A_ rfl <| wlThen <| wcRet ?_
     exact r1_ hQ rfl rfl (endT hC Om ⟨[], .refl _⟩ ⟨(by have e_ : (preR m n v sq d).1 = m := (by simp only [preR, plR, hk0, hk2, Int.toNat_natCast, h13, h14, h15, h16, ta_]); rw [e_]; exact hN8.rfo), (congrArg (Value.int .i64) (by simp only [preR, plR, hk0, hk2, Int.toNat_natCast, h13, h14, h15, h16, ta_]))⟩)
    ·
     refine wcCondF rfl <| wcSkip <| wcOf <| wcSeq <| wcRegion <| M_ rfl <| M_ rfl <| V_ (opNilCheck rfl) <| V_ (opFieldAddr rfl fo64_2) <| V_ (opLoadOne (v := (.int .i64 m.low)) rfl (hN8.cell (fun x hx => (hC.held x (List.mem_append_left _ hx)).1) (o := 3) rfl) one3) <| V_ (opSub rfl rfl) <| V_ (OpVal.cast (v' := .int .i64 (((ixR m sq) : Nat) : Int)) (opSub rfl rfl) (congrArg (Value.int .i64) (ixR_eq OKm hsq h16))) <| A_ rfl ?_
     refine wlThen (wcSeq (wcSeq ?_))
     refine wcDrawS 15 [0, 1, 3, 7, 0, 31, 63, 127, 0, 511, 1023, 0, 0, 8191, 16383] fmix (by kernel_rfl) (by kernel_rfl) rfl hC hB ?_; intro w hC hB
     refine D_ 0 rfl rfl (fun _ => opMove rfl) <| D_ 1 rfl rfl (fun _ => opNilCheck rfl) <| D_ 2 rfl rfl (fun _ => (opFieldAddr rfl fo64_3)) <| E_ 3 rfl rfl (opLoadOne (v := (.slice (some ⟨lb2, so3, none⟩) 8 cp4)) rfl (hN8.cell (fun x hx => (hC.held x (List.mem_append_left _ hx)).1) (o := 4) rfl) one62) <| D_ 4 rfl rfl (fun _ => opMove rfl) ?_
     obtain ⟨x17, hx18⟩ : ∃ y_, m.l[(ixR m sq)]? = some y_ := ⟨_, List.getElem?_eq_getElem (ixR_lt OKm hsq h16)⟩
     refine D_ 5 rfl rfl (fun _ => (opIndexAddr rfl rfl slo62 (hN8.lt hx18))) <| D_ 6 rfl rfl (fun _ => (opFieldAddr rfl fo69_1)) ?_
     obtain ⟨pv19, cv20, vq21, hE22⟩ := hN8.row hx18
     refine E_ 7 rfl rfl (opLoadOne (v := (.slice (some ⟨pv19.b, 0, none⟩) pv19.n pv19.n)) rfl (hE22.pvc (fun x hx => (hC.held x (List.mem_append_left _ hx)).1)) one67) <| D_ 8 rfl rfl (fun _ => opMove rfl) ?_
     obtain ⟨x24, hx25⟩ : ∃ y_, x17.pre[k0]? = some y_ := ⟨_, List.getElem?_eq_getElem (by rw [OKm.pre _ _ hx18]; exact hk1)⟩
     refine D_ 9 rfl rfl (fun _ => (opIndexAddr rfl rfl slo67 (by rw [hE22.pn]; exact (List.getElem?_eq_some_iff.1 hx25).1))) <| E_ 10 rfl rfl (opLoadRow (cs := x24.cells) rfl (hE22.pre _ _ hx25 _ (fun x hx => (hC.held x (List.mem_append_left _ hx)).1)) row66 (by simp [cl_])) <| D_ 11 rfl rfl (fun _ => opMove rfl) <| E_ 12 rfl rfl (opLoadRow (cs := d.cells) rfl (hB.range (i := 0) (m := 32) rfl (by simp [cl_])) row37 (by simp [cl_])) ?_
     refine wdAll [13] (by kernel_rfl) rfl ⟨wd1 rfl ?_, trivial⟩
     intro hGd
     refine wlCallS hC hB rfl co74 rfl rfl (said_ret _ _ hC.holds x24 v d) ?_; intro w hk hC hB
     refine wdNext hGd rfl (kpDrop rfl (kpDrop rfl (kpDrop rfl (kpDrop rfl kpNil)))) (Tk.nil _) ?_
     refine D_ 14 rfl rfl (fun _ => opAssign rfl) <| wdDone (by kernel_rfl) <| wcOf <| wcSeq <| wcRegion <| M_ rfl <| V_ (opNeq rfl rfl) <| wlThen ?_
     cases h26 : (((saidI x24 v d))) != 0
     ·
      refine wcCondF rfl <| wcSkip <| wcOf <| wcSeq ?_
      refine wcDrawS 14 [0, 1, 3, 7, 0, 31, 63, 127, 0, 0, 0, 1536, 4095, 8191] fmix (by kernel_rfl) (by kernel_rfl) rfl hC hB ?_; intro w hC hB
      refine D_ 0 rfl rfl (fun _ => opMove rfl) <| D_ 1 rfl rfl (fun _ => opNilCheck rfl) <| D_ 2 rfl rfl (fun _ => (opFieldAddr rfl fo64_3)) <| E_ 3 rfl rfl (opLoadOne (v := (.slice (some ⟨lb2, so3, none⟩) 8 cp4)) rfl (hN8.cell (fun x hx => (hC.held x (List.mem_append_left _ hx)).1) (o := 4) rfl) one62) <| D_ 4 rfl rfl (fun _ => opMove rfl) <| D_ 5 rfl rfl (fun _ => (opIndexAddr rfl rfl slo62 (hN8.lt hx18))) <| D_ 6 rfl rfl (fun _ => (opFieldAddr rfl fo69_1)) <| E_ 7 rfl rfl (opLoadOne (v := (.slice (some ⟨pv19.b, 0, none⟩) pv19.n pv19.n)) rfl (hE22.pvc (fun x hx => (hC.held x (List.mem_append_left _ hx)).1)) one67) <| D_ 8 rfl rfl (fun _ => opMove rfl) <| D_ 9 rfl rfl (fun _ => opMove rfl) <| E_ 10 rfl rfl (opLoadRow (cs := d.cells) rfl (hB.range (i := 0) (m := 32) rfl (by simp [cl_])) row37 (by simp [cl_])) <| D_ 11 rfl rfl (fun _ => (B_ (ps := [(0, .const (.bool true)), (1, .tmp 67), (2, .tmp 68)]) (cs := ((.bool true) :: ((.int .i64 v) :: (d.cells ++ [])))) so66 zero66 rfl rfl)) <| D_ 12 rfl rfl (fun _ => (opIndexAddr rfl rfl slo67 (by rw [hE22.pn]; exact (List.getElem?_eq_some_iff.1 hx25).1))) ?_
      refine wdAll [13] (by kernel_rfl) rfl ⟨wd1 rfl ?_, trivial⟩
      intro hGd
      refine wlRfPre (y := (RVt.mk true v d)) hN8 hC hB hx18 hx25 hE22 rfl rfl rfl sz66 rfl rfl ?_; intro O27 H28 w hC hB hN29
      refine wdNext hGd rfl (kpDrop rfl (kpDrop rfl (kpDrop rfl kpNil))) (Tk.nil _) ?_
      refine wdDone (by kernel_rfl) <| wcOf <| wcSeq <| wcRegion <| M_ rfl <| M_ rfl ?_
      refine wlCallC (O := O27) (B := []) hC hB rfl co71 rfl rfl (rlook_ret _ _ hC.holds bm O27 ((setL m ((ixR m sq)) (RSlot.mk x17.last ((List.set x17.pre k0 (RVt.mk true v d))) x17.com x17.p x17.q))) hC.chunkHeld hC.chunkNd hN29.rfo ((ixR m sq)) (setL_len (ixR_lt OKm hsq h16))) ?_; rintro v30 G O31 w hg hC hB ⟨hs32, rfl⟩
      obtain ⟨v33, lb34, so35, cp36, lc37, R38, H39, hN40⟩ := hs32.names
      have hn41 := hN40.n
      obtain ⟨A42, cap43, rfl⟩ := hn41.form
      refine wlThen (wcSeq (wcRegion ?_))
      refine A_ rfl <| wlThen <| wcRet ?_
      exact r1_ hQ rfl rfl (endT hC O31 ⟨[], .refl _⟩ ⟨(by have e_ : (preR m n v sq d).1 = (lookR ((setL m ((ixR m sq)) (RSlot.mk x17.last ((List.set x17.pre k0 (RVt.mk true v d))) x17.com x17.p x17.q))) ((ixR m sq))) := (by simp only [preR, plR, slR_eq hx18, hk0, hk2, Int.toNat_natCast, List.getD_eq_getElem?_getD, hx25, Option.getD_some, h13, h14, h15, h16, h26, ta_]); rw [e_]; exact hN40.rfo), (congrArg (Value.int .i64) (by simp only [preR, plR, slR_eq hx18, hk0, hk2, Int.toNat_natCast, List.getD_eq_getElem?_getD, hx25, Option.getD_some, h13, h14, h15, h16, h26, ta_]))⟩)
     ·
      refine wcCondT rfl <| wcSeq <| wcRegion <| M_ rfl <| A_ rfl <| wlThen <| wcRet ?_
      exact r1_ hQ rfl rfl (endT hC Om ⟨[], .refl _⟩ ⟨(by have e_ : (preR m n v sq d).1 = m := (by simp only [preR, plR, slR_eq hx18, hk0, hk2, Int.toNat_natCast, List.getD_eq_getElem?_getD, hx25, Option.getD_some, h13, h14, h15, h16, h26, ta_]); rw [e_]; exact hN8.rfo), (congrArg (Value.int .i64) (by simp only [preR, plR, slR_eq hx18, hk0, hk2, Int.toNat_natCast, List.getD_eq_getElem?_getD, hx25, Option.getD_some, h13, h14, h15, h16, h26, ta_]))⟩)
   ·
    refine wcCondT rfl <| wcSeq <| wcRegion <| A_ rfl <| wlThen <| wcRet ?_
    exact r1_ hQ rfl rfl (endT hC Om ⟨[], .refl _⟩ ⟨(by have e_ : (preR m n v sq d).1 = m := (by simp only [preR, plR, hk0, hk2, Int.toNat_natCast, h13, h14, h15, ta_]); rw [e_]; exact hN8.rfo), (congrArg (Value.int .i64) (by simp only [preR, plR, hk0, hk2, Int.toNat_natCast, h13, h14, h15, ta_]))⟩)
 ·
  refine wcCondT rfl <| wcSeq <| wcRegion <| A_ rfl <| wlThen <| wcRet ?_
  exact r1_ hQ rfl rfl (endT hC Om ⟨[], .refl _⟩ ⟨(by have e_ : (preR m n v sq d).1 = m := (by rw [preR_110 h13]); rw [e_]; exact hN8.rfo), (congrArg (Value.int .i64) (by rw [preR_110 h13]))⟩)

theorem rcommit_ret (G0 : Gh) (w0 : World) (hw : Holds G0 w0) (bm : Nat) (Om : List (Nat × Obj)) (m : RfS) (hOm : ∀ x ∈ Om, w0.heap[x.1]? = some x.2 ∧ G0 x.1 = none) (hdm : (Om.map (·.1)).Nodup) (hm : RfO G0 bm Om m) (n : Int) (v : Int) (sq : Int) (d : Dig) (hsq : I6 sq) :
  RetT Tryz.prog 37 #[.pointer (some ⟨bm, 0, none⟩), .int .i64 n, .int .i64 v, .int .i64 sq, .agg d.cells.toArray] G0 w0 (List.map (·.1) Om) (fun G O v_ => RfO G bm O (comR m n v sq d).1 ∧ v_ = .int .i64 (comR m n v sq d).2) := by
 have hC := Cx.refl hw
 have hB : Bxs G0 w0 w0.heap.size [] := Bxs.nil _ _ _
 have hC := Cx.reflH Om (List.map (·.1) Om) hw (fun x hx => ⟨(hOm x hx).1, (hOm x hx).2, List.mem_map.2 ⟨x, hx, rfl⟩⟩) hdm
 replace hC : Cx w0 G0 G0 w0 ⟨(List.map (·.1) Om), (Om ++ [])⟩ := by simpa using hC
 have hB : Bxs G0 w0 w0.heap.size [] ⟨(List.map (·.1) Om), (Om ++ [])⟩ := Bxs.nil _ _ _
 have OKm := hm.1
 obtain ⟨v1, lb2, so3, cp4, lc5, R6, H7, hN8⟩ := hm.names
 have hn9 := hN8.n
 obtain ⟨A10, cap11, rfl⟩ := hn9.form
 refine callsOf Tryz.func37 rfl _ Tryz.ntmps37 rfl _ (argsCons (argsCons (argsCons (argsCons (argsCons argsNil (t := 0) rfl) (t := 1) rfl) (t := 2) rfl) (t := 3) rfl) (t := 4) rfl) ?_; intro Q0 hQ
 refine wcSeq <| wcRegion ?_
 refine wlBox (cs := d.cells) hC hB rfl rfl rfl ?_; intro b12 w hk hC hB
 refine A_ rfl ?_
 refine wlThen (wcSeq (wcRegion ?_))
 refine M_ rfl <| M_ rfl ?_
 refine wlCallS hC hB rfl co72 rfl rfl (RetS.lend hC (fun G_ hg_ hh_ hL_ => place_ret _ _ hh_ bm Om m (fun y hy => hL_ y (List.mem_append_left _ hy)) (hN8.mono hg_).rfo n)) ?_; intro w hk hC hB
 refine A_ rfl ?_
 refine wlThen (wcSeq (wcSeq (wcRegion ?_)))
 refine M_ rfl <| V_ (opLss rfl rfl) <| wlThen ?_
 cases h13 : decide (((idxG (fun y => y == n) m.crew.nodes 0)) < 0)
 ·
  obtain ⟨k0, hk0, hk1⟩ := idxP_nat h13
  rw [hk0]
  have hk2 := h13
  rw [hk0] at hk2
  refine wcCondF rfl <| wcSkip <| wcOf ?_
  refine wcSeq (wcSeq (wcRegion ?_))
  refine M_ rfl ?_
  refine wlCallS hC hB rfl co68 rfl rfl (rviewMay_ret _ _ hC.holds v) ?_; intro w hk hC hB
  refine V_ (opNot rfl) <| wlThen ?_
  cases h14 : (viewB v)
  ·
   refine wcCondT rfl <| wcSeq <| wcRegion <| A_ rfl <| wlThen <| wcRet ?_
   exact r1_ hQ rfl rfl (endT hC Om ⟨[], .refl _⟩ ⟨(by have e_ : (comR m n v sq d).1 = m := (by simp only [comR, plR, hk0, hk2, Int.toNat_natCast, h13, h14, ta_]); rw [e_]; exact hN8.rfo), (congrArg (Value.int .i64) (by simp only [comR, plR, hk0, hk2, Int.toNat_natCast, h13, h14, ta_]))⟩)
  ·
   refine wcCondF rfl <| wcSkip <| wcOf ?_
   refine wcSeq (wcSeq (wcRegion ?_))
   refine M_ rfl <| M_ rfl ?_
   refine wlCallS hC hB rfl co69 rfl rfl (RetS.lend hC (fun G_ hg_ hh_ hL_ => inR_ret _ _ hh_ bm Om m (fun y hy => hL_ y (List.mem_append_left _ hy)) (hN8.mono hg_).rfo sq)) ?_; intro w hk hC hB
   refine V_ (opNot rfl) <| wlThen ?_
   cases h15 : ((inR m sq))
   ·
    refine wcCondT rfl <| wcSeq <| wcRegion <| A_ rfl <| wlThen <| wcRet ?_
    exact r1_ hQ rfl rfl (endT hC Om ⟨[], .refl _⟩ ⟨(by have e_ : (comR m n v sq d).1 = m := (by simp only [comR, plR, hk0, hk2, Int.toNat_natCast, h13, h14, h15, ta_]); rw [e_]; exact hN8.rfo), (congrArg (Value.int .i64) (by simp only [comR, plR, hk0, hk2, Int.toNat_natCast, h13, h14, h15, ta_]))⟩)
   ·
    refine wcCondF rfl <| wcSkip <| wcOf <| wcSeq <| wcRegion <| M_ rfl <| M_ rfl <| V_ (opNilCheck rfl) <| V_ (opFieldAddr rfl fo64_2) <| V_ (opLoadOne (v := (.int .i64 m.low)) rfl (hN8.cell (fun x hx => (hC.held x (List.mem_append_left _ hx)).1) (o := 3) rfl) one3) <| V_ (opSub rfl rfl) <| V_ (OpVal.cast (v' := .int .i64 (((ixR m sq) : Nat) : Int)) (opSub rfl rfl) (congrArg (Value.int .i64) (ixR_eq OKm hsq h15))) <| A_ rfl ?_
    refine wlThen (wcSeq (wcSeq ?_))
    refine wcDrawS 15 [0, 1, 3, 7, 0, 31, 63, 127, 0, 511, 1023, 0, 0, 8191, 16383] fmix (by kernel_rfl) (by kernel_rfl) rfl hC hB ?_; intro w hC hB
    refine D_ 0 rfl rfl (fun _ => opMove rfl) <| D_ 1 rfl rfl (fun _ => opNilCheck rfl) <| D_ 2 rfl rfl (fun _ => (opFieldAddr rfl fo64_3)) <| E_ 3 rfl rfl (opLoadOne (v := (.slice (some ⟨lb2, so3, none⟩) 8 cp4)) rfl (hN8.cell (fun x hx => (hC.held x (List.mem_append_left _ hx)).1) (o := 4) rfl) one62) <| D_ 4 rfl rfl (fun _ => opMove rfl) ?_
    obtain ⟨x16, hx17⟩ : ∃ y_, m.l[(ixR m sq)]? = some y_ := ⟨_, List.getElem?_eq_getElem (ixR_lt OKm hsq h15)⟩
    refine D_ 5 rfl rfl (fun _ => (opIndexAddr rfl rfl slo62 (hN8.lt hx17))) <| D_ 6 rfl rfl (fun _ => (opFieldAddr rfl fo69_2)) ?_
    obtain ⟨pv18, cv19, vq20, hE21⟩ := hN8.row hx17
    refine E_ 7 rfl rfl (opLoadOne (v := (.slice (some ⟨cv19.b, 0, none⟩) cv19.n cv19.n)) rfl (hE21.cvc (fun x hx => (hC.held x (List.mem_append_left _ hx)).1)) one67) <| D_ 8 rfl rfl (fun _ => opMove rfl) ?_
    obtain ⟨x23, hx24⟩ : ∃ y_, x16.com[k0]? = some y_ := ⟨_, List.getElem?_eq_getElem (by rw [OKm.com _ _ hx17]; exact hk1)⟩
    refine D_ 9 rfl rfl (fun _ => (opIndexAddr rfl rfl slo67 (by rw [hE21.cn]; exact (List.getElem?_eq_some_iff.1 hx24).1))) <| E_ 10 rfl rfl (opLoadRow (cs := x23.cells) rfl (hE21.com _ _ hx24 _ (fun x hx => (hC.held x (List.mem_append_left _ hx)).1)) row66 (by simp [cl_])) <| D_ 11 rfl rfl (fun _ => opMove rfl) <| E_ 12 rfl rfl (opLoadRow (cs := d.cells) rfl (hB.range (i := 0) (m := 32) rfl (by simp [cl_])) row37 (by simp [cl_])) ?_
    refine wdAll [13] (by kernel_rfl) rfl ⟨wd1 rfl ?_, trivial⟩
    intro hGd
    refine wlCallS hC hB rfl co74 rfl rfl (said_ret _ _ hC.holds x23 v d) ?_; intro w hk hC hB
    refine wdNext hGd rfl (kpDrop rfl (kpDrop rfl (kpDrop rfl (kpDrop rfl kpNil)))) (Tk.nil _) ?_
    refine D_ 14 rfl rfl (fun _ => opAssign rfl) <| wdDone (by kernel_rfl) <| wcOf <| wcSeq <| wcRegion <| M_ rfl <| V_ (opNeq rfl rfl) <| wlThen ?_
    cases h25 : (((saidI x23 v d))) != 0
    ·
     refine wcCondF rfl <| wcSkip <| wcOf <| wcSeq ?_
     refine wcDrawS 14 [0, 1, 3, 7, 0, 31, 63, 127, 0, 0, 0, 1536, 4095, 8191] fmix (by kernel_rfl) (by kernel_rfl) rfl hC hB ?_; intro w hC hB
     refine D_ 0 rfl rfl (fun _ => opMove rfl) <| D_ 1 rfl rfl (fun _ => opNilCheck rfl) <| D_ 2 rfl rfl (fun _ => (opFieldAddr rfl fo64_3)) <| E_ 3 rfl rfl (opLoadOne (v := (.slice (some ⟨lb2, so3, none⟩) 8 cp4)) rfl (hN8.cell (fun x hx => (hC.held x (List.mem_append_left _ hx)).1) (o := 4) rfl) one62) <| D_ 4 rfl rfl (fun _ => opMove rfl) <| D_ 5 rfl rfl (fun _ => (opIndexAddr rfl rfl slo62 (hN8.lt hx17))) <| D_ 6 rfl rfl (fun _ => (opFieldAddr rfl fo69_2)) <| E_ 7 rfl rfl (opLoadOne (v := (.slice (some ⟨cv19.b, 0, none⟩) cv19.n cv19.n)) rfl (hE21.cvc (fun x hx => (hC.held x (List.mem_append_left _ hx)).1)) one67) <| D_ 8 rfl rfl (fun _ => opMove rfl) <| D_ 9 rfl rfl (fun _ => opMove rfl) <| E_ 10 rfl rfl (opLoadRow (cs := d.cells) rfl (hB.range (i := 0) (m := 32) rfl (by simp [cl_])) row37 (by simp [cl_])) <| D_ 11 rfl rfl (fun _ => (B_ (ps := [(0, .const (.bool true)), (1, .tmp 59), (2, .tmp 60)]) (cs := ((.bool true) :: ((.int .i64 v) :: (d.cells ++ [])))) so66 zero66 rfl rfl)) <| D_ 12 rfl rfl (fun _ => (opIndexAddr rfl rfl slo67 (by rw [hE21.cn]; exact (List.getElem?_eq_some_iff.1 hx24).1))) ?_
     refine wdAll [13] (by kernel_rfl) rfl ⟨wd1 rfl ?_, trivial⟩
     intro hGd
     refine wlRfCom (y := (RVt.mk true v d)) hN8 hC hB hx17 hx24 hE21 rfl rfl rfl sz66 rfl rfl ?_; intro O26 H27 w hC hB hN28
     refine wdNext hGd rfl (kpDrop rfl (kpDrop rfl (kpDrop rfl kpNil))) (Tk.nil _) ?_
     refine wdDone (by kernel_rfl) <| wcOf <| wcSeq <| wcRegion <| A_ rfl <| wlThen <| wcRet ?_
     exact r1_ hQ rfl rfl (endT hC O26 ⟨[], .refl _⟩ ⟨(by have e_ : (comR m n v sq d).1 = (setL m ((ixR m sq)) (RSlot.mk x16.last x16.pre ((List.set x16.com k0 (RVt.mk true v d))) x16.p x16.q)) := (by simp only [comR, plR, slR_eq hx17, hk0, hk2, Int.toNat_natCast, List.getD_eq_getElem?_getD, hx24, Option.getD_some, h13, h14, h15, h25, ta_]); rw [e_]; exact hN28.rfo), (congrArg (Value.int .i64) (by simp only [comR, plR, slR_eq hx17, hk0, hk2, Int.toNat_natCast, List.getD_eq_getElem?_getD, hx24, Option.getD_some, h13, h14, h15, h25, ta_]))⟩)
    ·
     refine wcCondT rfl <| wcSeq <| wcRegion <| M_ rfl <| A_ rfl <| wlThen <| wcRet ?_
     exact r1_ hQ rfl rfl (endT hC Om ⟨[], .refl _⟩ ⟨(by have e_ : (comR m n v sq d).1 = m := (by simp only [comR, plR, slR_eq hx17, hk0, hk2, Int.toNat_natCast, List.getD_eq_getElem?_getD, hx24, Option.getD_some, h13, h14, h15, h25, ta_]); rw [e_]; exact hN8.rfo), (congrArg (Value.int .i64) (by simp only [comR, plR, slR_eq hx17, hk0, hk2, Int.toNat_natCast, List.getD_eq_getElem?_getD, hx24, Option.getD_some, h13, h14, h15, h25, ta_]))⟩)
 ·
  refine wcCondT rfl <| wcSeq <| wcRegion <| A_ rfl <| wlThen <| wcRet ?_
  exact r1_ hQ rfl rfl (endT hC Om ⟨[], .refl _⟩ ⟨(by have e_ : (comR m n v sq d).1 = m := (by rw [comR_110 h13]); rw [e_]; exact hN8.rfo), (congrArg (Value.int .i64) (by rw [comR_110 h13]))⟩)

end Go.Proofs.YtljcgggflgbenaaGreatDoor
