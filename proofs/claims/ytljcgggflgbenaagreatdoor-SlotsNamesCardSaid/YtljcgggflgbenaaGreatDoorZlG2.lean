/- What functions of the slots seat return, part 2. No condition. -/
import Derived.Test.YtljcgggflgbenaaGreatDoorZlG1
set_option linter.all false
namespace Go.Proofs.YtljcgggflgbenaaGreatDoor
open Go Go.Gx Go.RowKit
theorem so81 : structOk Tryz.prog 81 [(0, 33), (33, 33), (66, 1), (67, 1), (68, 1)] = true := by kernel_rfl
theorem zero81 : (Tryz.prog.info? 81).bind (fun i => i.zero.map Value.cells) = some (((.int .i64 0) :: (Dig.zero.cells ++ ((.int .i64 0) :: (Dig.zero.cells ++ ((.map none) :: ((.map none) :: ((.slice none 0 0) :: []))))))) : List Value).toArray := by kernel_rfl
theorem co24 : callOk Tryz.prog 24 = true := by kernel_rfl
theorem co49 : callOk Tryz.prog 49 = true := by kernel_rfl
theorem co57 : callOk Tryz.prog 57 = true := by kernel_rfl
theorem zv78 : (Tryz.prog.info? 78).bind (fun i => i.zero) = some (.agg ((Wd.mk 0 Dig.zero).cells).toArray) := by kernel_rfl
theorem so78 : structOk Tryz.prog 78 [(0, 1), (1, 32)] = true := by kernel_rfl
theorem co50 : callOk Tryz.prog 50 = true := by kernel_rfl
theorem co58 : callOk Tryz.prog 58 = true := by kernel_rfl
theorem co56 : callOk Tryz.prog 56 = true := by kernel_rfl
theorem co55 : callOk Tryz.prog 55 = true := by kernel_rfl
theorem newSlot_ret (G0 : Gh) (w0 : World) (hw : Holds G0 w0) (hsil : RowG G0 0 0 silence.cells) :
  RetT Tryz.prog 65 #[] G0 w0 [] (fun G L v => ∃ r : SlotB, v = .pointer (some ⟨r.p, 0, none⟩) ∧ L = r.blocks ∧ SlotO G r newS) := by
 have hC := Cx.refl hw
 have hB : Bxs G0 w0 w0.heap.size [] := Bxs.nil _ _ _
 refine callsOf Tryz.func65 rfl _ Tryz.ntmps65 rfl _ argsNil ?_; intro Q0 hQ
 refine wcSeq <| wcRegion <| A_ rfl ?_
 refine wlThen (wcSeq (wcRegion ?_))
 refine V_ (opLoadRow (cs := silence.cells) rfl (RowG.range hC.holds (hsil.part (i := 0) (m := 33) (by simp [cl_]))) row78 (by simp [cl_])) <| V_ (opLoadRow (cs := silence.cells) rfl (RowG.range hC.holds (hsil.part (i := 0) (m := 33) (by simp [cl_]))) row78 (by simp [cl_])) ?_
 refine wlMakeMapH hC hB rfl ?_; intro b1 w hC hB
 have hM2 : MpO kI G0 (.map #[] 0) ([] : List (Int × Wd)) := MpO.nil_ _ _
 refine wlMakeMapH hC hB rfl ?_; intro b3 w hC hB
 have hM4 : MpO kI G0 (.map #[] 0) ([] : List (Int × Wd)) := MpO.nil_ _ _
 refine V_ (B_ (ps := [(0, .tmp 1), (1, .tmp 2), (2, .tmp 3), (3, .tmp 4)]) (cs := ((.int .i64 silence.view) :: (silence.dig.cells ++ ((.int .i64 silence.view) :: (silence.dig.cells ++ ((.map (some b1)) :: ((.map (some b3)) :: ((.slice none 0 0) :: [])))))))) so81 zero81 rfl rfl) ?_
 refine wlBox (cs := ((.int .i64 silence.view) :: (silence.dig.cells ++ ((.int .i64 silence.view) :: (silence.dig.cells ++ ((.map (some b1)) :: ((.map (some b3)) :: ((.slice none 0 0) :: [])))))))) hC hB rfl rfl rfl ?_; intro b5 w hk hC hB
 obtain ⟨hC, hB⟩ := hold hC hB (i := 0) rfl
 refine A_ rfl <| wlThen <| wcRet ?_
 exact r1_ hQ rfl rfl (endT hC [(b5, .cells ((.int .i64 silence.view) :: (silence.dig.cells ++ ((.int .i64 silence.view) :: (silence.dig.cells ++ ((.map (some b1)) :: ((.map (some b3)) :: ((.slice none 0 0) :: []))))))).toArray 81 (0, 0)), (b1, .map #[] 0), (b3, .map #[] 0)] ⟨[], (List.Perm.swap _ _ _).cons _⟩ ⟨⟨b5, b1, b3, ((.int .i64 silence.view) :: (silence.dig.cells ++ ((.int .i64 silence.view) :: (silence.dig.cells ++ ((.map (some b1)) :: ((.map (some b3)) :: ((.slice none 0 0) :: []))))))), _, _, .slice none 0 0, none⟩, rfl, rfl, ⟨rfl, hM2, hM4, Ow.nil_ _ _, Nat.zero_le _⟩⟩)

theorem words1_ret (G0 : Gh) (w0 : World) (hw : Holds G0 w0) (px : Nat) (lx rx : Wd) (m1x m2x : Nat) (qx : Value) (hbx : HasO G0 px (.cells (slotC lx rx m1x m2x qx).toArray 81 (0, 0))) :
  RetS Tryz.prog 57 #[.pointer (some ⟨px, 0, none⟩)] G0 w0 (.map (some m1x)) := by
 have hC := Cx.refl hw
 have hB : Bxs G0 w0 w0.heap.size [] := Bxs.nil _ _ _
 have hF1 := hbx.row
 refine callsOf Tryz.func57 rfl _ Tryz.ntmps57 rfl _ (argsCons argsNil (t := 0) rfl) ?_; intro Q0 hQ
 refine wcSeq <| wcRegion <| A_ rfl ?_
 refine wlThen (wcSeq (wcRegion ?_))
 refine M_ rfl <| V_ (opNilCheck rfl) <| V_ (opFieldAddr rfl fo81_2) <| V_ (opLoadOne (v := (.map (some m1x))) rfl (RowG.cell hC.holds hF1 (j := 66) (by simp [cl_])) one79) <| A_ rfl <| wlThen <| wcRet ?_
 exact r1_ hQ rfl rfl (endS hC hw rfl)

theorem words2_ret (G0 : Gh) (w0 : World) (hw : Holds G0 w0) (px : Nat) (lx rx : Wd) (m1x m2x : Nat) (qx : Value) (hbx : HasO G0 px (.cells (slotC lx rx m1x m2x qx).toArray 81 (0, 0))) :
  RetS Tryz.prog 58 #[.pointer (some ⟨px, 0, none⟩)] G0 w0 (.map (some m2x)) := by
 have hC := Cx.refl hw
 have hB : Bxs G0 w0 w0.heap.size [] := Bxs.nil _ _ _
 have hF1 := hbx.row
 refine callsOf Tryz.func58 rfl _ Tryz.ntmps58 rfl _ (argsCons argsNil (t := 0) rfl) ?_; intro Q0 hQ
 refine wcSeq <| wcRegion <| A_ rfl ?_
 refine wlThen (wcSeq (wcRegion ?_))
 refine M_ rfl <| V_ (opNilCheck rfl) <| V_ (opFieldAddr rfl fo81_3) <| V_ (opLoadOne (v := (.map (some m2x))) rfl (RowG.cell hC.holds hF1 (j := 67) (by simp [cl_])) one79) <| A_ rfl <| wlThen <| wcRet ?_
 exact r1_ hQ rfl rfl (endS hC hw rfl)

theorem hearP_ret (G0 : Gh) (w0 : World) (hw : Holds G0 w0) (bs : Nat) (Os : List (Nat × Obj)) (s : SlS) (hOs : ∀ x ∈ Os, w0.heap[x.1]? = some x.2 ∧ G0 x.1 = none) (hds : (Os.map (·.1)).Nodup) (hs : SlO G0 bs Os s) (node : Int) (view : Int) (k : Int) (d : Dig) (leads : Bool) :
  RetT Tryz.prog 56 #[.pointer (some ⟨bs, 0, none⟩), .int .i64 node, .int .i64 view, .int .i64 k, .agg d.cells.toArray, .bool leads, .func (.func 57) #[] #[]] G0 w0 (List.map (·.1) Os) (fun G O v => SlO G bs O (hearI true s node view k d leads).1 ∧ v = .int .i64 (hearI true s node view k d leads).2) := by
 have hC := Cx.refl hw
 have hB : Bxs G0 w0 w0.heap.size [] := Bxs.nil _ _ _
 obtain ⟨v1, l2, om3, D4, H5, rfl, hn6, hM7, hH8⟩ := hs
 obtain ⟨A9, cap10, rfl⟩ := hn6.form
 have hC := Cx.reflH ((bs, .cells [(.int .i64 s.crew.faults), (.slice A9 s.crew.nodes.length cap10), (.int .i64 s.low), (.map (some l2))].toArray 56 (0, 0)) :: (l2, om3) :: H5) (List.map (·.1) ((bs, .cells [(.int .i64 s.crew.faults), (.slice A9 s.crew.nodes.length cap10), (.int .i64 s.low), (.map (some l2))].toArray 56 (0, 0)) :: (l2, om3) :: H5)) hw (fun x hx => ⟨(hOs x hx).1, (hOs x hx).2, List.mem_map.2 ⟨x, hx, rfl⟩⟩) hds
 have hB : Bxs G0 w0 w0.heap.size [] ⟨(List.map (·.1) ((bs, .cells [(.int .i64 s.crew.faults), (.slice A9 s.crew.nodes.length cap10), (.int .i64 s.low), (.map (some l2))].toArray 56 (0, 0)) :: (l2, om3) :: H5)), ((bs, .cells [(.int .i64 s.crew.faults), (.slice A9 s.crew.nodes.length cap10), (.int .i64 s.low), (.map (some l2))].toArray 56 (0, 0)) :: (l2, om3) :: H5)⟩ := Bxs.nil _ _ _
 refine callsOf Tryz.func56 rfl _ Tryz.ntmps56 rfl _ (argsCons (argsCons (argsCons (argsCons (argsCons (argsCons (argsCons argsNil (t := 0) rfl) (t := 1) rfl) (t := 2) rfl) (t := 3) rfl) (t := 4) rfl) (t := 5) rfl) (t := 6) rfl) ?_; intro Q0 hQ
 refine wcSeq <| wcRegion ?_
 refine wlBox (cs := d.cells) hC hB rfl rfl rfl ?_; intro b11 w hk hC hB
 refine A_ rfl ?_
 refine wlThen (wcSeq (wcSeq (wcRegion ?_)))
 refine M_ rfl ?_
 refine wlCallS hC hB rfl co48 rfl rfl (RetS.lend hC (fun G_ hg_ hh_ hL_ => none_ret _ _ hh_ bs l2 _ s (hL_ (bs, .cells [(.int .i64 s.crew.faults), (.slice A9 s.crew.nodes.length cap10), (.int .i64 s.low), (.map (some l2))].toArray 56 (0, 0)) (by simp)) (hn6.mono hg_))) ?_; intro w hk hC hB
 refine wlThen <| wcCondF rfl <| wcSkip <| wcOf <| wcSeq <| wcRegion <| M_ rfl <| V_ (opNilCheck rfl) <| V_ (opFieldAddr rfl fo56_2) <| V_ (opLoadOne (v := (.map (some l2))) rfl (hC.hcell 0 rfl (o := 3) rfl) one54) <| M_ rfl ?_
 obtain ⟨v14, hv15, hr16⟩ := hM7.lookup (keyL_int ui3) mk54 zv75 (isPt' _ (Pt.mk none)) k
 rcases hf12 : s.f k with _ | t13
 ·
  rw [hH8.at_none hf12] at hv15
  replace hv15 : v14 = .pointer none := hv15
  subst hv15
  refine V_ (opLookupH rfl rfl (hr16 _ _ (hC.heldAt 1 rfl))) <| A_ rfl <| wlThen <| wcSeq ?_
  refine wcBlock (wcSeq (wcRegion ?_))
  refine M_ rfl <| V_ (opNilCheck rfl) <| V_ (opFieldAddr rfl fo56_0) <| V_ (opLoadRow (cs := [(.int .i64 s.crew.faults), (.slice A9 s.crew.nodes.length cap10)]) rfl (hC.hrange 0 rfl (o := 0) (m := 2) rfl) row24 rfl) <| M_ rfl ?_
  refine wlCallS hC hB rfl co24 rfl rfl (has_ret _ _ hC.holds _ s.crew (Crew.mkIs (x := s.crew) hn6) node) ?_; intro w hk hC hB
  refine V_ (opNot rfl) <| A_ rfl <| wlThen ?_
  cases h17 : (has s.crew node)
  ·
   refine wcCondT rfl <| wcSeq <| wcRegion <| A_ rfl <| wlThen <| wcRet ?_
   exact r1_ hQ rfl rfl (endT hC _ ⟨[], List.Perm.of_eq (List.append_nil _).symm⟩ ⟨(by have e_ : (hearI true s node view k d leads).1 = s := (by simp only [hearI, saysI, wordOf, hf12, h17, ta_, zne]); rw [e_]; exact ⟨_, _, _, _, _, rfl, hn6, hM7, hH8⟩), (by simp only [hearI, saysI, wordOf, hf12, h17, ta_, zne])⟩)
  ·
   refine wcCondF rfl <| wcSeq <| wcRegion <| M_ rfl ?_
   refine wlCallS hC hB rfl co49 rfl rfl (viewMay_ret _ _ hC.holds view) ?_; intro w hk hC hB
   refine V_ (opNot rfl) <| A_ rfl <| wlThen ?_
   cases h18 : (viewB view)
   ·
    refine wcCondT rfl <| wcSeq <| wcRegion <| A_ rfl <| wlThen <| wcRet ?_
    exact r1_ hQ rfl rfl (endT hC _ ⟨[], List.Perm.of_eq (List.append_nil _).symm⟩ ⟨(by have e_ : (hearI true s node view k d leads).1 = s := (by simp only [hearI, saysI, wordOf, hf12, h17, h18, ta_, zne]); rw [e_]; exact ⟨_, _, _, _, _, rfl, hn6, hM7, hH8⟩), (by simp only [hearI, saysI, wordOf, hf12, h17, h18, ta_, zne])⟩)
   ·
    refine wcCondF rfl <| wcSeq <| wcRegion <| M_ rfl <| V_ (opNot rfl) <| M_ rfl ?_
    cases h19 : leads
    ·
     refine wlOn rfl rfl <| M_ rfl <| wlOn rfl rfl <| V_ (opNilCheck rfl) <| wlOn rfl rfl <| V_ (opFieldAddr rfl fo56_0) <| wlOn rfl rfl <| V_ (opLoadRow (cs := [(.int .i64 s.crew.faults), (.slice A9 s.crew.nodes.length cap10)]) rfl (hC.hrange 0 rfl (o := 0) (m := 2) rfl) row24 rfl) <| wlOn rfl rfl <| M_ rfl <| wlOn rfl rfl ?_
     refine wlCallS hC hB rfl co85 rfl rfl (leader_ret _ _ hC.holds _ s.crew (Crew.mkIs (x := s.crew) hn6) view) ?_; intro w hk hC hB
     refine wlOn rfl rfl <| M_ rfl <| wlOn rfl rfl <| V_ (opEql rfl rfl) <| V_ (opPickT rfl rfl) <| A_ rfl <| wlThen ?_
     cases h20 : (((leaderI s.crew view))) == node
     ·
      refine wcCondF rfl <| wcSeq <| wcRegion <| M_ rfl <| V_ (OpVal.cast (v' := .bool true) (opPtrNil ip75 rfl rfl) rfl) <| A_ rfl <| wlThen <| wcCondT rfl <| wcSeq <| wcRegion <| A_ rfl <| wlThen <| wcRet ?_
      exact r1_ hQ rfl rfl (endT hC _ ⟨[], List.Perm.of_eq (List.append_nil _).symm⟩ ⟨(by have e_ : (hearI true s node view k d leads).1 = s := (by simp only [hearI, saysI, wordOf, hf12, h17, h18, h19, h20, ta_, zne]); rw [e_]; exact ⟨_, _, _, _, _, rfl, hn6, hM7, hH8⟩), (by simp only [hearI, saysI, wordOf, hf12, h17, h18, h19, h20, ta_, zne])⟩)
     ·
      refine wcCondT rfl <| wcSeq <| wcRegion <| A_ rfl <| wlThen <| wcRet ?_
      exact r1_ hQ rfl rfl (endT hC _ ⟨[], List.Perm.of_eq (List.append_nil _).symm⟩ ⟨(by have e_ : (hearI true s node view k d leads).1 = s := (by simp only [hearI, saysI, wordOf, hf12, h17, h18, h19, h20, ta_, zne]); rw [e_]; exact ⟨_, _, _, _, _, rfl, hn6, hM7, hH8⟩), (by simp only [hearI, saysI, wordOf, hf12, h17, h18, h19, h20, ta_, zne])⟩)
    ·
     refine wlOff rfl rfl rfl rfl <| wlOff rfl rfl rfl rfl <| wlOff rfl rfl rfl rfl <| wlOff rfl rfl rfl rfl <| wlOff rfl rfl rfl rfl <| wlOff rfl rfl rfl rfl <| wlOff rfl rfl rfl rfl <| wlOff rfl rfl rfl rfl <| V_ (opPickF rfl rfl) <| A_ rfl <| wlThen <| wcCondF rfl <| wcSeq <| wcRegion <| M_ rfl <| V_ (OpVal.cast (v' := .bool true) (opPtrNil ip75 rfl rfl) rfl) <| A_ rfl <| wlThen <| wcCondT rfl <| wcSeq <| wcRegion <| A_ rfl ?_
     refine wlThen <| wcRet ?_
     exact r1_ hQ rfl rfl (endT hC _ ⟨[], List.Perm.of_eq (List.append_nil _).symm⟩ ⟨(by have e_ : (hearI true s node view k d leads).1 = s := (by simp only [hearI, saysI, wordOf, hf12, h17, h18, h19, ta_, zne]); rw [e_]; exact ⟨_, _, _, _, _, rfl, hn6, hM7, hH8⟩), (by simp only [hearI, saysI, wordOf, hf12, h17, h18, h19, ta_, zne])⟩)
 ·
  obtain ⟨r21, H22, hD23, hS24, hp25, hR26⟩ := hH8.at_some hf12
  rw [hD23] at hv15
  replace hv15 : v14 = .pointer (some ⟨r21.p, 0, none⟩) := hv15
  subst hv15
  refine V_ (opLookupH rfl rfl (hr16 _ _ (hC.heldAt 1 rfl))) ?_
  have hM27 := hS24.pre
  have hM28 := hS24.com
  have hq29 := hS24.q
  have hc30 : r21.c = ((.int .i64 t13.last.view) :: (t13.last.dig.cells ++ ((.int .i64 t13.prep.view) :: (t13.prep.dig.cells ++ ((.map (some r21.m1)) :: ((.map (some r21.m2)) :: (r21.vq :: []))))))) := hS24.c
  replace hC : Cx w0 G0 G0 w ⟨(List.map (·.1) ((bs, .cells [(.int .i64 s.crew.faults), (.slice A9 s.crew.nodes.length cap10), (.int .i64 s.low), (.map (some l2))].toArray 56 (0, 0)) :: (l2, om3) :: H5)), ((bs, .cells [(.int .i64 s.crew.faults), (.slice A9 s.crew.nodes.length cap10), (.int .i64 s.low), (.map (some l2))].toArray 56 (0, 0)) :: (l2, om3) :: (r21.p, .cells ((.int .i64 t13.last.view) :: (t13.last.dig.cells ++ ((.int .i64 t13.prep.view) :: (t13.prep.dig.cells ++ ((.map (some r21.m1)) :: ((.map (some r21.m2)) :: (r21.vq :: []))))))).toArray 81 (0, 0)) :: (r21.m1, r21.o1) :: (r21.m2, r21.o2) :: (ob r21.oq ++ H22))⟩ := by rw [← hc30]; exact hC.permH ((hp25.cons _).cons _)
  replace hB : Bxs G0 w w0.heap.size [(b11, 37, d.cells)] ⟨(List.map (·.1) ((bs, .cells [(.int .i64 s.crew.faults), (.slice A9 s.crew.nodes.length cap10), (.int .i64 s.low), (.map (some l2))].toArray 56 (0, 0)) :: (l2, om3) :: H5)), ((bs, .cells [(.int .i64 s.crew.faults), (.slice A9 s.crew.nodes.length cap10), (.int .i64 s.low), (.map (some l2))].toArray 56 (0, 0)) :: (l2, om3) :: (r21.p, .cells ((.int .i64 t13.last.view) :: (t13.last.dig.cells ++ ((.int .i64 t13.prep.view) :: (t13.prep.dig.cells ++ ((.map (some r21.m1)) :: ((.map (some r21.m2)) :: (r21.vq :: []))))))).toArray 81 (0, 0)) :: (r21.m1, r21.o1) :: (r21.m2, r21.o2) :: (ob r21.oq ++ H22))⟩ := by rw [← hc30]; exact hB.permH ((hp25.cons _).cons _)
  refine A_ rfl <| wlThen <| wcSeq ?_
  refine wcBlock (wcSeq (wcRegion ?_))
  refine M_ rfl <| V_ (opNilCheck rfl) <| V_ (opFieldAddr rfl fo56_0) <| V_ (opLoadRow (cs := [(.int .i64 s.crew.faults), (.slice A9 s.crew.nodes.length cap10)]) rfl (hC.hrange 0 rfl (o := 0) (m := 2) rfl) row24 rfl) <| M_ rfl ?_
  refine wlCallS hC hB rfl co24 rfl rfl (has_ret _ _ hC.holds _ s.crew (Crew.mkIs (x := s.crew) hn6) node) ?_; intro w hk hC hB
  refine V_ (opNot rfl) <| A_ rfl <| wlThen ?_
  cases h31 : (has s.crew node)
  ·
   refine wcCondT rfl <| wcSeq <| wcRegion <| A_ rfl <| wlThen <| wcRet ?_
   exact r1_ hQ rfl rfl (endT hC _ ⟨[], List.Perm.of_eq (List.append_nil _).symm⟩ ⟨(by have e_ : (hearI true s node view k d leads).1 = (SlS.mk s.crew s.low (upd s.f k t13)) := (by rw [show (SlS.mk s.crew s.low (upd s.f k t13)) = s from slS_self hf12]; simp only [hearI, saysI, wordOf, hf12, h31, ta_, zne]); rw [e_]; exact ⟨_, _, _, _, _, rfl, hn6, hM7, (hR26 _ ⟨r21.p, r21.m1, r21.m2, ((Value.int .i64 t13.last.view) :: (t13.last.dig.cells ++ ((Value.int .i64 t13.prep.view) :: (t13.prep.dig.cells ++ ((Value.map (some r21.m1)) :: ((Value.map (some r21.m2)) :: (r21.vq :: []))))))), r21.o1, r21.o2, r21.vq, r21.oq⟩ t13 (fun _ _ h => h) rfl ⟨rfl, hM27, hM28, hq29, hS24.ql⟩)⟩), (by simp only [hearI, saysI, wordOf, hf12, h31, ta_, zne])⟩)
  ·
   refine wcCondF rfl <| wcSeq <| wcRegion <| M_ rfl ?_
   refine wlCallS hC hB rfl co49 rfl rfl (viewMay_ret _ _ hC.holds view) ?_; intro w hk hC hB
   refine V_ (opNot rfl) <| A_ rfl <| wlThen ?_
   cases h32 : (viewB view)
   ·
    refine wcCondT rfl <| wcSeq <| wcRegion <| A_ rfl <| wlThen <| wcRet ?_
    exact r1_ hQ rfl rfl (endT hC _ ⟨[], List.Perm.of_eq (List.append_nil _).symm⟩ ⟨(by have e_ : (hearI true s node view k d leads).1 = (SlS.mk s.crew s.low (upd s.f k t13)) := (by rw [show (SlS.mk s.crew s.low (upd s.f k t13)) = s from slS_self hf12]; simp only [hearI, saysI, wordOf, hf12, h31, h32, ta_, zne]); rw [e_]; exact ⟨_, _, _, _, _, rfl, hn6, hM7, (hR26 _ ⟨r21.p, r21.m1, r21.m2, ((Value.int .i64 t13.last.view) :: (t13.last.dig.cells ++ ((Value.int .i64 t13.prep.view) :: (t13.prep.dig.cells ++ ((Value.map (some r21.m1)) :: ((Value.map (some r21.m2)) :: (r21.vq :: []))))))), r21.o1, r21.o2, r21.vq, r21.oq⟩ t13 (fun _ _ h => h) rfl ⟨rfl, hM27, hM28, hq29, hS24.ql⟩)⟩), (by simp only [hearI, saysI, wordOf, hf12, h31, h32, ta_, zne])⟩)
   ·
    refine wcCondF rfl <| wcSeq <| wcRegion <| M_ rfl <| V_ (opNot rfl) <| M_ rfl ?_
    cases h33 : leads
    ·
     refine wlOn rfl rfl <| M_ rfl <| wlOn rfl rfl <| V_ (opNilCheck rfl) <| wlOn rfl rfl <| V_ (opFieldAddr rfl fo56_0) <| wlOn rfl rfl <| V_ (opLoadRow (cs := [(.int .i64 s.crew.faults), (.slice A9 s.crew.nodes.length cap10)]) rfl (hC.hrange 0 rfl (o := 0) (m := 2) rfl) row24 rfl) <| wlOn rfl rfl <| M_ rfl <| wlOn rfl rfl ?_
     refine wlCallS hC hB rfl co85 rfl rfl (leader_ret _ _ hC.holds _ s.crew (Crew.mkIs (x := s.crew) hn6) view) ?_; intro w hk hC hB
     refine wlOn rfl rfl <| M_ rfl <| wlOn rfl rfl <| V_ (opEql rfl rfl) <| V_ (opPickT rfl rfl) <| A_ rfl <| wlThen ?_
     cases h34 : (((leaderI s.crew view))) == node
     ·
      refine wcCondF rfl <| wcSeq <| wcRegion <| M_ rfl <| V_ (OpVal.cast (v' := .bool false) (opPtrNil ip75 rfl rfl) rfl) <| A_ rfl <| wlThen <| wcCondF rfl <| wcSkip <| wcOf <| wcSeq <| wcRegion <| M_ rfl <| M_ rfl ?_
      refine wlCallS hC hB rfl co57 rfl rfl (RetS.lend hC (fun G_ hg_ hh_ hL_ => words1_ret _ _ hh_ _ _ _ _ _ _ (hL_ (r21.p, .cells ((.int .i64 t13.last.view) :: (t13.last.dig.cells ++ ((.int .i64 t13.prep.view) :: (t13.prep.dig.cells ++ ((.map (some r21.m1)) :: ((.map (some r21.m2)) :: (r21.vq :: []))))))).toArray 81 (0, 0)) (by simp)))) ?_; intro w hk hC hB
      refine A_ rfl ?_
      refine wlThen (wcSeq (wcSeq (wcRegion ?_)))
      refine M_ rfl <| M_ rfl ?_
      obtain ⟨v35, hv36, hr37⟩ := hM27.lookupOk (keyL_int ui3) mk79 zv78 (isWd' _ (Wd.mk 0 Dig.zero)) node
      obtain rfl := isWd hv36
      refine V_ (opLookup2H rfl rfl (hr37 _ _ (hC.heldAt 3 rfl))) <| M_ rfl <| V_ (opExtract rfl rfl) <| V_ (opExtract rfl rfl) ?_
      refine wlAlloc hC hB zero78 rfl ?_; intro b38 w hk hC hB
      refine wlStore 0 (vs := (((mget t13.pre node).getD (Wd.mk 0 Dig.zero))).cells) (cs := ((.int .i64 0) :: (Dig.zero.cells ++ []))) (cs' := (((mget t13.pre node).getD (Wd.mk 0 Dig.zero))).cells) hC hB rfl rfl rfl sz78 rfl (by simp [cl_]) (by simp [cl_, Value.oneCell']) (by simp [cl_]) (by simp [cl_]) rfl ?_; intro w hC hB
      refine A_ rfl ?_
      refine wlThen (wcSeq (wcRegion ?_))
      refine M_ rfl <| wlThen ?_
      cases h39 : (mget t13.pre node).isSome
      ·
       refine wcCondF rfl <| wcSkip <| wcOf <| wcSeq <| wcRegion <| M_ rfl <| M_ rfl <| M_ rfl <| V_ (opLoadRow (cs := d.cells) rfl (hB.range (i := 1) (m := 32) rfl (by simp [cl_])) row37 (by simp [cl_])) <| V_ (B_ (ps := [(0, .tmp 75), (1, .tmp 76)]) (cs := ((.int .i64 view) :: (d.cells ++ []))) so78 zero78 rfl rfl) ?_
       obtain ⟨q40, hM41, hr42, hit43⟩ := hM27.put (keyL_int ui3) mk79 (isWd' _ ((Wd.mk view d))) node
       refine wlMapPutH hC hB (i := 3) rfl rfl rfl rfl (hr42 _ _ (hC.heldAt 3 rfl)) rfl ?_; intro w hC hB
       refine wlThen (wcSeq (wcRegion ?_))
       refine A_ rfl <| wlThen <| wcRet ?_
       exact r1_ hQ rfl rfl (endT hC _ ⟨[], List.Perm.of_eq (List.append_nil _).symm⟩ ⟨(by have e_ : (hearI true s node view k d leads).1 = (SlS.mk s.crew s.low (upd s.f k (SlotS.mk t13.last t13.prep ((mput t13.pre node ((Wd.mk view d)))) t13.com t13.q))) := (by simp only [hearI, saysI, wordOf, hf12, h31, h32, h33, h34, h39, ta_, zne]); rw [e_]; exact ⟨_, _, _, _, _, rfl, hn6, hM7, (hR26 _ ⟨r21.p, r21.m1, r21.m2, ((Value.int .i64 t13.last.view) :: (t13.last.dig.cells ++ ((Value.int .i64 t13.prep.view) :: (t13.prep.dig.cells ++ ((Value.map (some r21.m1)) :: ((Value.map (some r21.m2)) :: (r21.vq :: []))))))), q40, r21.o2, r21.vq, r21.oq⟩ (SlotS.mk t13.last t13.prep ((mput t13.pre node ((Wd.mk view d)))) t13.com t13.q) (fun _ _ h => h) rfl ⟨rfl, hM41, hM28, hq29, hS24.ql⟩)⟩), (by simp only [hearI, saysI, wordOf, hf12, h31, h32, h33, h34, h39, ta_, zne])⟩)
      ·
       refine wcCondT rfl <| wcSeq <| wcRegion <| V_ (opLoadRow (cs := (((mget t13.pre node).getD (Wd.mk 0 Dig.zero))).cells) rfl (hB.range (i := 0) (m := 33) rfl (by simp [cl_])) row78 (by simp [cl_])) <| M_ rfl <| V_ (opLoadRow (cs := d.cells) rfl (hB.range (i := 1) (m := 32) rfl (by simp [cl_])) row37 (by simp [cl_])) ?_
       refine wlCallS hC hB rfl co50 rfl rfl (goes_ret _ _ hC.holds (((mget t13.pre node).getD (Wd.mk 0 Dig.zero))) view d) ?_; intro w hk hC hB
       refine A_ rfl ?_
       refine wlThen (wcSeq (wcRegion ?_))
       refine M_ rfl <| V_ (opNeq rfl rfl) <| wlThen ?_
       cases h44 : (((goesI (((mget t13.pre node).getD (Wd.mk 0 Dig.zero))) view d))) != 0
       ·
        refine wcCondF rfl <| wcSkip <| wcOf <| wcSeq <| wcRegion <| M_ rfl <| M_ rfl <| M_ rfl <| V_ (opLoadRow (cs := d.cells) rfl (hB.range (i := 1) (m := 32) rfl (by simp [cl_])) row37 (by simp [cl_])) <| V_ (B_ (ps := [(0, .tmp 75), (1, .tmp 76)]) (cs := ((.int .i64 view) :: (d.cells ++ []))) so78 zero78 rfl rfl) ?_
        obtain ⟨q45, hM46, hr47, hit48⟩ := hM27.put (keyL_int ui3) mk79 (isWd' _ ((Wd.mk view d))) node
        refine wlMapPutH hC hB (i := 3) rfl rfl rfl rfl (hr47 _ _ (hC.heldAt 3 rfl)) rfl ?_; intro w hC hB
        refine wlThen (wcSeq (wcRegion ?_))
        refine A_ rfl <| wlThen <| wcRet ?_
        exact r1_ hQ rfl rfl (endT hC _ ⟨[], List.Perm.of_eq (List.append_nil _).symm⟩ ⟨(by have e_ : (hearI true s node view k d leads).1 = (SlS.mk s.crew s.low (upd s.f k (SlotS.mk t13.last t13.prep ((mput t13.pre node ((Wd.mk view d)))) t13.com t13.q))) := (by simp only [hearI, saysI, wordOf, hf12, h31, h32, h33, h34, h39, h44, ta_, zne]); rw [e_]; exact ⟨_, _, _, _, _, rfl, hn6, hM7, (hR26 _ ⟨r21.p, r21.m1, r21.m2, ((Value.int .i64 t13.last.view) :: (t13.last.dig.cells ++ ((Value.int .i64 t13.prep.view) :: (t13.prep.dig.cells ++ ((Value.map (some r21.m1)) :: ((Value.map (some r21.m2)) :: (r21.vq :: []))))))), q45, r21.o2, r21.vq, r21.oq⟩ (SlotS.mk t13.last t13.prep ((mput t13.pre node ((Wd.mk view d)))) t13.com t13.q) (fun _ _ h => h) rfl ⟨rfl, hM46, hM28, hq29, hS24.ql⟩)⟩), (by simp only [hearI, saysI, wordOf, hf12, h31, h32, h33, h34, h39, h44, ta_, zne])⟩)
       ·
        refine wcCondT rfl <| wcSeq <| wcRegion <| M_ rfl <| A_ rfl <| wlThen <| wcRet ?_
        exact r1_ hQ rfl rfl (endT hC _ ⟨[], List.Perm.of_eq (List.append_nil _).symm⟩ ⟨(by have e_ : (hearI true s node view k d leads).1 = (SlS.mk s.crew s.low (upd s.f k t13)) := (by rw [show (SlS.mk s.crew s.low (upd s.f k t13)) = s from slS_self hf12]; simp only [hearI, saysI, wordOf, hf12, h31, h32, h33, h34, h39, h44, ta_, zne]); rw [e_]; exact ⟨_, _, _, _, _, rfl, hn6, hM7, (hR26 _ ⟨r21.p, r21.m1, r21.m2, ((Value.int .i64 t13.last.view) :: (t13.last.dig.cells ++ ((Value.int .i64 t13.prep.view) :: (t13.prep.dig.cells ++ ((Value.map (some r21.m1)) :: ((Value.map (some r21.m2)) :: (r21.vq :: []))))))), r21.o1, r21.o2, r21.vq, r21.oq⟩ t13 (fun _ _ h => h) rfl ⟨rfl, hM27, hM28, hq29, hS24.ql⟩)⟩), (by simp only [hearI, saysI, wordOf, hf12, h31, h32, h33, h34, h39, h44, ta_, zne])⟩)
     ·
      refine wcCondT rfl <| wcSeq <| wcRegion <| A_ rfl <| wlThen <| wcRet ?_
      exact r1_ hQ rfl rfl (endT hC _ ⟨[], List.Perm.of_eq (List.append_nil _).symm⟩ ⟨(by have e_ : (hearI true s node view k d leads).1 = (SlS.mk s.crew s.low (upd s.f k t13)) := (by rw [show (SlS.mk s.crew s.low (upd s.f k t13)) = s from slS_self hf12]; simp only [hearI, saysI, wordOf, hf12, h31, h32, h33, h34, ta_, zne]); rw [e_]; exact ⟨_, _, _, _, _, rfl, hn6, hM7, (hR26 _ ⟨r21.p, r21.m1, r21.m2, ((Value.int .i64 t13.last.view) :: (t13.last.dig.cells ++ ((Value.int .i64 t13.prep.view) :: (t13.prep.dig.cells ++ ((Value.map (some r21.m1)) :: ((Value.map (some r21.m2)) :: (r21.vq :: []))))))), r21.o1, r21.o2, r21.vq, r21.oq⟩ t13 (fun _ _ h => h) rfl ⟨rfl, hM27, hM28, hq29, hS24.ql⟩)⟩), (by simp only [hearI, saysI, wordOf, hf12, h31, h32, h33, h34, ta_, zne])⟩)
    ·
     refine wlOff rfl rfl rfl rfl <| wlOff rfl rfl rfl rfl <| wlOff rfl rfl rfl rfl <| wlOff rfl rfl rfl rfl <| wlOff rfl rfl rfl rfl <| wlOff rfl rfl rfl rfl <| wlOff rfl rfl rfl rfl <| wlOff rfl rfl rfl rfl <| V_ (opPickF rfl rfl) <| A_ rfl <| wlThen <| wcCondF rfl <| wcSeq <| wcRegion <| M_ rfl <| V_ (OpVal.cast (v' := .bool false) (opPtrNil ip75 rfl rfl) rfl) <| A_ rfl <| wlThen <| wcCondF rfl <| wcSkip <| wcOf ?_
     refine wcSeq <| wcRegion <| M_ rfl <| M_ rfl ?_
     refine wlCallS hC hB rfl co57 rfl rfl (RetS.lend hC (fun G_ hg_ hh_ hL_ => words1_ret _ _ hh_ _ _ _ _ _ _ (hL_ (r21.p, .cells ((.int .i64 t13.last.view) :: (t13.last.dig.cells ++ ((.int .i64 t13.prep.view) :: (t13.prep.dig.cells ++ ((.map (some r21.m1)) :: ((.map (some r21.m2)) :: (r21.vq :: []))))))).toArray 81 (0, 0)) (by simp)))) ?_; intro w hk hC hB
     refine A_ rfl ?_
     refine wlThen (wcSeq (wcSeq (wcRegion ?_)))
     refine M_ rfl <| M_ rfl ?_
     obtain ⟨v49, hv50, hr51⟩ := hM27.lookupOk (keyL_int ui3) mk79 zv78 (isWd' _ (Wd.mk 0 Dig.zero)) node
     obtain rfl := isWd hv50
     refine V_ (opLookup2H rfl rfl (hr51 _ _ (hC.heldAt 3 rfl))) <| M_ rfl <| V_ (opExtract rfl rfl) <| V_ (opExtract rfl rfl) ?_
     refine wlAlloc hC hB zero78 rfl ?_; intro b52 w hk hC hB
     refine wlStore 0 (vs := (((mget t13.pre node).getD (Wd.mk 0 Dig.zero))).cells) (cs := ((.int .i64 0) :: (Dig.zero.cells ++ []))) (cs' := (((mget t13.pre node).getD (Wd.mk 0 Dig.zero))).cells) hC hB rfl rfl rfl sz78 rfl (by simp [cl_]) (by simp [cl_, Value.oneCell']) (by simp [cl_]) (by simp [cl_]) rfl ?_; intro w hC hB
     refine A_ rfl ?_
     refine wlThen (wcSeq (wcRegion ?_))
     refine M_ rfl <| wlThen ?_
     cases h53 : (mget t13.pre node).isSome
     ·
      refine wcCondF rfl <| wcSkip <| wcOf <| wcSeq <| wcRegion <| M_ rfl <| M_ rfl <| M_ rfl <| V_ (opLoadRow (cs := d.cells) rfl (hB.range (i := 1) (m := 32) rfl (by simp [cl_])) row37 (by simp [cl_])) <| V_ (B_ (ps := [(0, .tmp 75), (1, .tmp 76)]) (cs := ((.int .i64 view) :: (d.cells ++ []))) so78 zero78 rfl rfl) ?_
      obtain ⟨q54, hM55, hr56, hit57⟩ := hM27.put (keyL_int ui3) mk79 (isWd' _ ((Wd.mk view d))) node
      refine wlMapPutH hC hB (i := 3) rfl rfl rfl rfl (hr56 _ _ (hC.heldAt 3 rfl)) rfl ?_; intro w hC hB
      refine wlThen (wcSeq (wcRegion ?_))
      refine A_ rfl <| wlThen <| wcRet ?_
      exact r1_ hQ rfl rfl (endT hC _ ⟨[], List.Perm.of_eq (List.append_nil _).symm⟩ ⟨(by have e_ : (hearI true s node view k d leads).1 = (SlS.mk s.crew s.low (upd s.f k (SlotS.mk t13.last t13.prep ((mput t13.pre node ((Wd.mk view d)))) t13.com t13.q))) := (by simp only [hearI, saysI, wordOf, hf12, h31, h32, h33, h53, ta_, zne]); rw [e_]; exact ⟨_, _, _, _, _, rfl, hn6, hM7, (hR26 _ ⟨r21.p, r21.m1, r21.m2, ((Value.int .i64 t13.last.view) :: (t13.last.dig.cells ++ ((Value.int .i64 t13.prep.view) :: (t13.prep.dig.cells ++ ((Value.map (some r21.m1)) :: ((Value.map (some r21.m2)) :: (r21.vq :: []))))))), q54, r21.o2, r21.vq, r21.oq⟩ (SlotS.mk t13.last t13.prep ((mput t13.pre node ((Wd.mk view d)))) t13.com t13.q) (fun _ _ h => h) rfl ⟨rfl, hM55, hM28, hq29, hS24.ql⟩)⟩), (by simp only [hearI, saysI, wordOf, hf12, h31, h32, h33, h53, ta_, zne])⟩)
     ·
      refine wcCondT rfl <| wcSeq <| wcRegion <| V_ (opLoadRow (cs := (((mget t13.pre node).getD (Wd.mk 0 Dig.zero))).cells) rfl (hB.range (i := 0) (m := 33) rfl (by simp [cl_])) row78 (by simp [cl_])) <| M_ rfl <| V_ (opLoadRow (cs := d.cells) rfl (hB.range (i := 1) (m := 32) rfl (by simp [cl_])) row37 (by simp [cl_])) ?_
      refine wlCallS hC hB rfl co50 rfl rfl (goes_ret _ _ hC.holds (((mget t13.pre node).getD (Wd.mk 0 Dig.zero))) view d) ?_; intro w hk hC hB
      refine A_ rfl ?_
      refine wlThen (wcSeq (wcRegion ?_))
      refine M_ rfl <| V_ (opNeq rfl rfl) <| wlThen ?_
      cases h58 : (((goesI (((mget t13.pre node).getD (Wd.mk 0 Dig.zero))) view d))) != 0
      ·
       refine wcCondF rfl <| wcSkip <| wcOf <| wcSeq <| wcRegion <| M_ rfl <| M_ rfl <| M_ rfl <| V_ (opLoadRow (cs := d.cells) rfl (hB.range (i := 1) (m := 32) rfl (by simp [cl_])) row37 (by simp [cl_])) <| V_ (B_ (ps := [(0, .tmp 75), (1, .tmp 76)]) (cs := ((.int .i64 view) :: (d.cells ++ []))) so78 zero78 rfl rfl) ?_
       obtain ⟨q59, hM60, hr61, hit62⟩ := hM27.put (keyL_int ui3) mk79 (isWd' _ ((Wd.mk view d))) node
       refine wlMapPutH hC hB (i := 3) rfl rfl rfl rfl (hr61 _ _ (hC.heldAt 3 rfl)) rfl ?_; intro w hC hB
       refine wlThen (wcSeq (wcRegion ?_))
       refine A_ rfl <| wlThen <| wcRet ?_
       exact r1_ hQ rfl rfl (endT hC _ ⟨[], List.Perm.of_eq (List.append_nil _).symm⟩ ⟨(by have e_ : (hearI true s node view k d leads).1 = (SlS.mk s.crew s.low (upd s.f k (SlotS.mk t13.last t13.prep ((mput t13.pre node ((Wd.mk view d)))) t13.com t13.q))) := (by simp only [hearI, saysI, wordOf, hf12, h31, h32, h33, h53, h58, ta_, zne]); rw [e_]; exact ⟨_, _, _, _, _, rfl, hn6, hM7, (hR26 _ ⟨r21.p, r21.m1, r21.m2, ((Value.int .i64 t13.last.view) :: (t13.last.dig.cells ++ ((Value.int .i64 t13.prep.view) :: (t13.prep.dig.cells ++ ((Value.map (some r21.m1)) :: ((Value.map (some r21.m2)) :: (r21.vq :: []))))))), q59, r21.o2, r21.vq, r21.oq⟩ (SlotS.mk t13.last t13.prep ((mput t13.pre node ((Wd.mk view d)))) t13.com t13.q) (fun _ _ h => h) rfl ⟨rfl, hM60, hM28, hq29, hS24.ql⟩)⟩), (by simp only [hearI, saysI, wordOf, hf12, h31, h32, h33, h53, h58, ta_, zne])⟩)
      ·
       refine wcCondT rfl <| wcSeq <| wcRegion <| M_ rfl <| A_ rfl <| wlThen <| wcRet ?_
       exact r1_ hQ rfl rfl (endT hC _ ⟨[], List.Perm.of_eq (List.append_nil _).symm⟩ ⟨(by have e_ : (hearI true s node view k d leads).1 = (SlS.mk s.crew s.low (upd s.f k t13)) := (by rw [show (SlS.mk s.crew s.low (upd s.f k t13)) = s from slS_self hf12]; simp only [hearI, saysI, wordOf, hf12, h31, h32, h33, h53, h58, ta_, zne]); rw [e_]; exact ⟨_, _, _, _, _, rfl, hn6, hM7, (hR26 _ ⟨r21.p, r21.m1, r21.m2, ((Value.int .i64 t13.last.view) :: (t13.last.dig.cells ++ ((Value.int .i64 t13.prep.view) :: (t13.prep.dig.cells ++ ((Value.map (some r21.m1)) :: ((Value.map (some r21.m2)) :: (r21.vq :: []))))))), r21.o1, r21.o2, r21.vq, r21.oq⟩ t13 (fun _ _ h => h) rfl ⟨rfl, hM27, hM28, hq29, hS24.ql⟩)⟩), (by simp only [hearI, saysI, wordOf, hf12, h31, h32, h33, h53, h58, ta_, zne])⟩)

theorem hearC_ret (G0 : Gh) (w0 : World) (hw : Holds G0 w0) (bs : Nat) (Os : List (Nat × Obj)) (s : SlS) (hOs : ∀ x ∈ Os, w0.heap[x.1]? = some x.2 ∧ G0 x.1 = none) (hds : (Os.map (·.1)).Nodup) (hs : SlO G0 bs Os s) (node : Int) (view : Int) (k : Int) (d : Dig) (leads : Bool) :
  RetT Tryz.prog 56 #[.pointer (some ⟨bs, 0, none⟩), .int .i64 node, .int .i64 view, .int .i64 k, .agg d.cells.toArray, .bool leads, .func (.func 58) #[] #[]] G0 w0 (List.map (·.1) Os) (fun G O v => SlO G bs O (hearI false s node view k d leads).1 ∧ v = .int .i64 (hearI false s node view k d leads).2) := by
 have hC := Cx.refl hw
 have hB : Bxs G0 w0 w0.heap.size [] := Bxs.nil _ _ _
 obtain ⟨v1, l2, om3, D4, H5, rfl, hn6, hM7, hH8⟩ := hs
 obtain ⟨A9, cap10, rfl⟩ := hn6.form
 have hC := Cx.reflH ((bs, .cells [(.int .i64 s.crew.faults), (.slice A9 s.crew.nodes.length cap10), (.int .i64 s.low), (.map (some l2))].toArray 56 (0, 0)) :: (l2, om3) :: H5) (List.map (·.1) ((bs, .cells [(.int .i64 s.crew.faults), (.slice A9 s.crew.nodes.length cap10), (.int .i64 s.low), (.map (some l2))].toArray 56 (0, 0)) :: (l2, om3) :: H5)) hw (fun x hx => ⟨(hOs x hx).1, (hOs x hx).2, List.mem_map.2 ⟨x, hx, rfl⟩⟩) hds
 have hB : Bxs G0 w0 w0.heap.size [] ⟨(List.map (·.1) ((bs, .cells [(.int .i64 s.crew.faults), (.slice A9 s.crew.nodes.length cap10), (.int .i64 s.low), (.map (some l2))].toArray 56 (0, 0)) :: (l2, om3) :: H5)), ((bs, .cells [(.int .i64 s.crew.faults), (.slice A9 s.crew.nodes.length cap10), (.int .i64 s.low), (.map (some l2))].toArray 56 (0, 0)) :: (l2, om3) :: H5)⟩ := Bxs.nil _ _ _
 refine callsOf Tryz.func56 rfl _ Tryz.ntmps56 rfl _ (argsCons (argsCons (argsCons (argsCons (argsCons (argsCons (argsCons argsNil (t := 0) rfl) (t := 1) rfl) (t := 2) rfl) (t := 3) rfl) (t := 4) rfl) (t := 5) rfl) (t := 6) rfl) ?_; intro Q0 hQ
 refine wcSeq <| wcRegion ?_
 refine wlBox (cs := d.cells) hC hB rfl rfl rfl ?_; intro b11 w hk hC hB
 refine A_ rfl ?_
 refine wlThen (wcSeq (wcSeq (wcRegion ?_)))
 refine M_ rfl ?_
 refine wlCallS hC hB rfl co48 rfl rfl (RetS.lend hC (fun G_ hg_ hh_ hL_ => none_ret _ _ hh_ bs l2 _ s (hL_ (bs, .cells [(.int .i64 s.crew.faults), (.slice A9 s.crew.nodes.length cap10), (.int .i64 s.low), (.map (some l2))].toArray 56 (0, 0)) (by simp)) (hn6.mono hg_))) ?_; intro w hk hC hB
 refine wlThen <| wcCondF rfl <| wcSkip <| wcOf <| wcSeq <| wcRegion <| M_ rfl <| V_ (opNilCheck rfl) <| V_ (opFieldAddr rfl fo56_2) <| V_ (opLoadOne (v := (.map (some l2))) rfl (hC.hcell 0 rfl (o := 3) rfl) one54) <| M_ rfl ?_
 obtain ⟨v14, hv15, hr16⟩ := hM7.lookup (keyL_int ui3) mk54 zv75 (isPt' _ (Pt.mk none)) k
 rcases hf12 : s.f k with _ | t13
 ·
  rw [hH8.at_none hf12] at hv15
  replace hv15 : v14 = .pointer none := hv15
  subst hv15
  refine V_ (opLookupH rfl rfl (hr16 _ _ (hC.heldAt 1 rfl))) <| A_ rfl <| wlThen <| wcSeq ?_
  refine wcBlock (wcSeq (wcRegion ?_))
  refine M_ rfl <| V_ (opNilCheck rfl) <| V_ (opFieldAddr rfl fo56_0) <| V_ (opLoadRow (cs := [(.int .i64 s.crew.faults), (.slice A9 s.crew.nodes.length cap10)]) rfl (hC.hrange 0 rfl (o := 0) (m := 2) rfl) row24 rfl) <| M_ rfl ?_
  refine wlCallS hC hB rfl co24 rfl rfl (has_ret _ _ hC.holds _ s.crew (Crew.mkIs (x := s.crew) hn6) node) ?_; intro w hk hC hB
  refine V_ (opNot rfl) <| A_ rfl <| wlThen ?_
  cases h17 : (has s.crew node)
  ·
   refine wcCondT rfl <| wcSeq <| wcRegion <| A_ rfl <| wlThen <| wcRet ?_
   exact r1_ hQ rfl rfl (endT hC _ ⟨[], List.Perm.of_eq (List.append_nil _).symm⟩ ⟨(by have e_ : (hearI false s node view k d leads).1 = s := (by simp only [hearI, saysI, wordOf, hf12, h17, ta_, zne]); rw [e_]; exact ⟨_, _, _, _, _, rfl, hn6, hM7, hH8⟩), (by simp only [hearI, saysI, wordOf, hf12, h17, ta_, zne])⟩)
  ·
   refine wcCondF rfl <| wcSeq <| wcRegion <| M_ rfl ?_
   refine wlCallS hC hB rfl co49 rfl rfl (viewMay_ret _ _ hC.holds view) ?_; intro w hk hC hB
   refine V_ (opNot rfl) <| A_ rfl <| wlThen ?_
   cases h18 : (viewB view)
   ·
    refine wcCondT rfl <| wcSeq <| wcRegion <| A_ rfl <| wlThen <| wcRet ?_
    exact r1_ hQ rfl rfl (endT hC _ ⟨[], List.Perm.of_eq (List.append_nil _).symm⟩ ⟨(by have e_ : (hearI false s node view k d leads).1 = s := (by simp only [hearI, saysI, wordOf, hf12, h17, h18, ta_, zne]); rw [e_]; exact ⟨_, _, _, _, _, rfl, hn6, hM7, hH8⟩), (by simp only [hearI, saysI, wordOf, hf12, h17, h18, ta_, zne])⟩)
   ·
    refine wcCondF rfl <| wcSeq <| wcRegion <| M_ rfl <| V_ (opNot rfl) <| M_ rfl ?_
    cases h19 : leads
    ·
     refine wlOn rfl rfl <| M_ rfl <| wlOn rfl rfl <| V_ (opNilCheck rfl) <| wlOn rfl rfl <| V_ (opFieldAddr rfl fo56_0) <| wlOn rfl rfl <| V_ (opLoadRow (cs := [(.int .i64 s.crew.faults), (.slice A9 s.crew.nodes.length cap10)]) rfl (hC.hrange 0 rfl (o := 0) (m := 2) rfl) row24 rfl) <| wlOn rfl rfl <| M_ rfl <| wlOn rfl rfl ?_
     refine wlCallS hC hB rfl co85 rfl rfl (leader_ret _ _ hC.holds _ s.crew (Crew.mkIs (x := s.crew) hn6) view) ?_; intro w hk hC hB
     refine wlOn rfl rfl <| M_ rfl <| wlOn rfl rfl <| V_ (opEql rfl rfl) <| V_ (opPickT rfl rfl) <| A_ rfl <| wlThen ?_
     cases h20 : (((leaderI s.crew view))) == node
     ·
      refine wcCondF rfl <| wcSeq <| wcRegion <| M_ rfl <| V_ (OpVal.cast (v' := .bool true) (opPtrNil ip75 rfl rfl) rfl) <| A_ rfl <| wlThen <| wcCondT rfl <| wcSeq <| wcRegion <| A_ rfl <| wlThen <| wcRet ?_
      exact r1_ hQ rfl rfl (endT hC _ ⟨[], List.Perm.of_eq (List.append_nil _).symm⟩ ⟨(by have e_ : (hearI false s node view k d leads).1 = s := (by simp only [hearI, saysI, wordOf, hf12, h17, h18, h19, h20, ta_, zne]); rw [e_]; exact ⟨_, _, _, _, _, rfl, hn6, hM7, hH8⟩), (by simp only [hearI, saysI, wordOf, hf12, h17, h18, h19, h20, ta_, zne])⟩)
     ·
      refine wcCondT rfl <| wcSeq <| wcRegion <| A_ rfl <| wlThen <| wcRet ?_
      exact r1_ hQ rfl rfl (endT hC _ ⟨[], List.Perm.of_eq (List.append_nil _).symm⟩ ⟨(by have e_ : (hearI false s node view k d leads).1 = s := (by simp only [hearI, saysI, wordOf, hf12, h17, h18, h19, h20, ta_, zne]); rw [e_]; exact ⟨_, _, _, _, _, rfl, hn6, hM7, hH8⟩), (by simp only [hearI, saysI, wordOf, hf12, h17, h18, h19, h20, ta_, zne])⟩)
    ·
     refine wlOff rfl rfl rfl rfl <| wlOff rfl rfl rfl rfl <| wlOff rfl rfl rfl rfl <| wlOff rfl rfl rfl rfl <| wlOff rfl rfl rfl rfl <| wlOff rfl rfl rfl rfl <| wlOff rfl rfl rfl rfl <| wlOff rfl rfl rfl rfl <| V_ (opPickF rfl rfl) <| A_ rfl <| wlThen <| wcCondF rfl <| wcSeq <| wcRegion <| M_ rfl <| V_ (OpVal.cast (v' := .bool true) (opPtrNil ip75 rfl rfl) rfl) <| A_ rfl <| wlThen <| wcCondT rfl <| wcSeq <| wcRegion <| A_ rfl ?_
     refine wlThen <| wcRet ?_
     exact r1_ hQ rfl rfl (endT hC _ ⟨[], List.Perm.of_eq (List.append_nil _).symm⟩ ⟨(by have e_ : (hearI false s node view k d leads).1 = s := (by simp only [hearI, saysI, wordOf, hf12, h17, h18, h19, ta_, zne]); rw [e_]; exact ⟨_, _, _, _, _, rfl, hn6, hM7, hH8⟩), (by simp only [hearI, saysI, wordOf, hf12, h17, h18, h19, ta_, zne])⟩)
 ·
  obtain ⟨r21, H22, hD23, hS24, hp25, hR26⟩ := hH8.at_some hf12
  rw [hD23] at hv15
  replace hv15 : v14 = .pointer (some ⟨r21.p, 0, none⟩) := hv15
  subst hv15
  refine V_ (opLookupH rfl rfl (hr16 _ _ (hC.heldAt 1 rfl))) ?_
  have hM27 := hS24.pre
  have hM28 := hS24.com
  have hq29 := hS24.q
  have hc30 : r21.c = ((.int .i64 t13.last.view) :: (t13.last.dig.cells ++ ((.int .i64 t13.prep.view) :: (t13.prep.dig.cells ++ ((.map (some r21.m1)) :: ((.map (some r21.m2)) :: (r21.vq :: []))))))) := hS24.c
  replace hC : Cx w0 G0 G0 w ⟨(List.map (·.1) ((bs, .cells [(.int .i64 s.crew.faults), (.slice A9 s.crew.nodes.length cap10), (.int .i64 s.low), (.map (some l2))].toArray 56 (0, 0)) :: (l2, om3) :: H5)), ((bs, .cells [(.int .i64 s.crew.faults), (.slice A9 s.crew.nodes.length cap10), (.int .i64 s.low), (.map (some l2))].toArray 56 (0, 0)) :: (l2, om3) :: (r21.p, .cells ((.int .i64 t13.last.view) :: (t13.last.dig.cells ++ ((.int .i64 t13.prep.view) :: (t13.prep.dig.cells ++ ((.map (some r21.m1)) :: ((.map (some r21.m2)) :: (r21.vq :: []))))))).toArray 81 (0, 0)) :: (r21.m1, r21.o1) :: (r21.m2, r21.o2) :: (ob r21.oq ++ H22))⟩ := by rw [← hc30]; exact hC.permH ((hp25.cons _).cons _)
  replace hB : Bxs G0 w w0.heap.size [(b11, 37, d.cells)] ⟨(List.map (·.1) ((bs, .cells [(.int .i64 s.crew.faults), (.slice A9 s.crew.nodes.length cap10), (.int .i64 s.low), (.map (some l2))].toArray 56 (0, 0)) :: (l2, om3) :: H5)), ((bs, .cells [(.int .i64 s.crew.faults), (.slice A9 s.crew.nodes.length cap10), (.int .i64 s.low), (.map (some l2))].toArray 56 (0, 0)) :: (l2, om3) :: (r21.p, .cells ((.int .i64 t13.last.view) :: (t13.last.dig.cells ++ ((.int .i64 t13.prep.view) :: (t13.prep.dig.cells ++ ((.map (some r21.m1)) :: ((.map (some r21.m2)) :: (r21.vq :: []))))))).toArray 81 (0, 0)) :: (r21.m1, r21.o1) :: (r21.m2, r21.o2) :: (ob r21.oq ++ H22))⟩ := by rw [← hc30]; exact hB.permH ((hp25.cons _).cons _)
  refine A_ rfl <| wlThen <| wcSeq ?_
  refine wcBlock (wcSeq (wcRegion ?_))
  refine M_ rfl <| V_ (opNilCheck rfl) <| V_ (opFieldAddr rfl fo56_0) <| V_ (opLoadRow (cs := [(.int .i64 s.crew.faults), (.slice A9 s.crew.nodes.length cap10)]) rfl (hC.hrange 0 rfl (o := 0) (m := 2) rfl) row24 rfl) <| M_ rfl ?_
  refine wlCallS hC hB rfl co24 rfl rfl (has_ret _ _ hC.holds _ s.crew (Crew.mkIs (x := s.crew) hn6) node) ?_; intro w hk hC hB
  refine V_ (opNot rfl) <| A_ rfl <| wlThen ?_
  cases h31 : (has s.crew node)
  ·
   refine wcCondT rfl <| wcSeq <| wcRegion <| A_ rfl <| wlThen <| wcRet ?_
   exact r1_ hQ rfl rfl (endT hC _ ⟨[], List.Perm.of_eq (List.append_nil _).symm⟩ ⟨(by have e_ : (hearI false s node view k d leads).1 = (SlS.mk s.crew s.low (upd s.f k t13)) := (by rw [show (SlS.mk s.crew s.low (upd s.f k t13)) = s from slS_self hf12]; simp only [hearI, saysI, wordOf, hf12, h31, ta_, zne]); rw [e_]; exact ⟨_, _, _, _, _, rfl, hn6, hM7, (hR26 _ ⟨r21.p, r21.m1, r21.m2, ((Value.int .i64 t13.last.view) :: (t13.last.dig.cells ++ ((Value.int .i64 t13.prep.view) :: (t13.prep.dig.cells ++ ((Value.map (some r21.m1)) :: ((Value.map (some r21.m2)) :: (r21.vq :: []))))))), r21.o1, r21.o2, r21.vq, r21.oq⟩ t13 (fun _ _ h => h) rfl ⟨rfl, hM27, hM28, hq29, hS24.ql⟩)⟩), (by simp only [hearI, saysI, wordOf, hf12, h31, ta_, zne])⟩)
  ·
   refine wcCondF rfl <| wcSeq <| wcRegion <| M_ rfl ?_
   refine wlCallS hC hB rfl co49 rfl rfl (viewMay_ret _ _ hC.holds view) ?_; intro w hk hC hB
   refine V_ (opNot rfl) <| A_ rfl <| wlThen ?_
   cases h32 : (viewB view)
   ·
    refine wcCondT rfl <| wcSeq <| wcRegion <| A_ rfl <| wlThen <| wcRet ?_
    exact r1_ hQ rfl rfl (endT hC _ ⟨[], List.Perm.of_eq (List.append_nil _).symm⟩ ⟨(by have e_ : (hearI false s node view k d leads).1 = (SlS.mk s.crew s.low (upd s.f k t13)) := (by rw [show (SlS.mk s.crew s.low (upd s.f k t13)) = s from slS_self hf12]; simp only [hearI, saysI, wordOf, hf12, h31, h32, ta_, zne]); rw [e_]; exact ⟨_, _, _, _, _, rfl, hn6, hM7, (hR26 _ ⟨r21.p, r21.m1, r21.m2, ((Value.int .i64 t13.last.view) :: (t13.last.dig.cells ++ ((Value.int .i64 t13.prep.view) :: (t13.prep.dig.cells ++ ((Value.map (some r21.m1)) :: ((Value.map (some r21.m2)) :: (r21.vq :: []))))))), r21.o1, r21.o2, r21.vq, r21.oq⟩ t13 (fun _ _ h => h) rfl ⟨rfl, hM27, hM28, hq29, hS24.ql⟩)⟩), (by simp only [hearI, saysI, wordOf, hf12, h31, h32, ta_, zne])⟩)
   ·
    refine wcCondF rfl <| wcSeq <| wcRegion <| M_ rfl <| V_ (opNot rfl) <| M_ rfl ?_
    cases h33 : leads
    ·
     refine wlOn rfl rfl <| M_ rfl <| wlOn rfl rfl <| V_ (opNilCheck rfl) <| wlOn rfl rfl <| V_ (opFieldAddr rfl fo56_0) <| wlOn rfl rfl <| V_ (opLoadRow (cs := [(.int .i64 s.crew.faults), (.slice A9 s.crew.nodes.length cap10)]) rfl (hC.hrange 0 rfl (o := 0) (m := 2) rfl) row24 rfl) <| wlOn rfl rfl <| M_ rfl <| wlOn rfl rfl ?_
     refine wlCallS hC hB rfl co85 rfl rfl (leader_ret _ _ hC.holds _ s.crew (Crew.mkIs (x := s.crew) hn6) view) ?_; intro w hk hC hB
     refine wlOn rfl rfl <| M_ rfl <| wlOn rfl rfl <| V_ (opEql rfl rfl) <| V_ (opPickT rfl rfl) <| A_ rfl <| wlThen ?_
     cases h34 : (((leaderI s.crew view))) == node
     ·
      refine wcCondF rfl <| wcSeq <| wcRegion <| M_ rfl <| V_ (OpVal.cast (v' := .bool false) (opPtrNil ip75 rfl rfl) rfl) <| A_ rfl <| wlThen <| wcCondF rfl <| wcSkip <| wcOf <| wcSeq <| wcRegion <| M_ rfl <| M_ rfl ?_
      refine wlCallS hC hB rfl co58 rfl rfl (RetS.lend hC (fun G_ hg_ hh_ hL_ => words2_ret _ _ hh_ _ _ _ _ _ _ (hL_ (r21.p, .cells ((.int .i64 t13.last.view) :: (t13.last.dig.cells ++ ((.int .i64 t13.prep.view) :: (t13.prep.dig.cells ++ ((.map (some r21.m1)) :: ((.map (some r21.m2)) :: (r21.vq :: []))))))).toArray 81 (0, 0)) (by simp)))) ?_; intro w hk hC hB
      refine A_ rfl ?_
      refine wlThen (wcSeq (wcSeq (wcRegion ?_)))
      refine M_ rfl <| M_ rfl ?_
      obtain ⟨v35, hv36, hr37⟩ := hM28.lookupOk (keyL_int ui3) mk79 zv78 (isWd' _ (Wd.mk 0 Dig.zero)) node
      obtain rfl := isWd hv36
      refine V_ (opLookup2H rfl rfl (hr37 _ _ (hC.heldAt 4 rfl))) <| M_ rfl <| V_ (opExtract rfl rfl) <| V_ (opExtract rfl rfl) ?_
      refine wlAlloc hC hB zero78 rfl ?_; intro b38 w hk hC hB
      refine wlStore 0 (vs := (((mget t13.com node).getD (Wd.mk 0 Dig.zero))).cells) (cs := ((.int .i64 0) :: (Dig.zero.cells ++ []))) (cs' := (((mget t13.com node).getD (Wd.mk 0 Dig.zero))).cells) hC hB rfl rfl rfl sz78 rfl (by simp [cl_]) (by simp [cl_, Value.oneCell']) (by simp [cl_]) (by simp [cl_]) rfl ?_; intro w hC hB
      refine A_ rfl ?_
      refine wlThen (wcSeq (wcRegion ?_))
      refine M_ rfl <| wlThen ?_
      cases h39 : (mget t13.com node).isSome
      ·
       refine wcCondF rfl <| wcSkip <| wcOf <| wcSeq <| wcRegion <| M_ rfl <| M_ rfl <| M_ rfl <| V_ (opLoadRow (cs := d.cells) rfl (hB.range (i := 1) (m := 32) rfl (by simp [cl_])) row37 (by simp [cl_])) <| V_ (B_ (ps := [(0, .tmp 75), (1, .tmp 76)]) (cs := ((.int .i64 view) :: (d.cells ++ []))) so78 zero78 rfl rfl) ?_
       obtain ⟨q40, hM41, hr42, hit43⟩ := hM28.put (keyL_int ui3) mk79 (isWd' _ ((Wd.mk view d))) node
       refine wlMapPutH hC hB (i := 4) rfl rfl rfl rfl (hr42 _ _ (hC.heldAt 4 rfl)) rfl ?_; intro w hC hB
       refine wlThen (wcSeq (wcRegion ?_))
       refine A_ rfl <| wlThen <| wcRet ?_
       exact r1_ hQ rfl rfl (endT hC _ ⟨[], List.Perm.of_eq (List.append_nil _).symm⟩ ⟨(by have e_ : (hearI false s node view k d leads).1 = (SlS.mk s.crew s.low (upd s.f k (SlotS.mk t13.last t13.prep t13.pre ((mput t13.com node ((Wd.mk view d)))) t13.q))) := (by simp only [hearI, saysI, wordOf, hf12, h31, h32, h33, h34, h39, ta_, zne]); rw [e_]; exact ⟨_, _, _, _, _, rfl, hn6, hM7, (hR26 _ ⟨r21.p, r21.m1, r21.m2, ((Value.int .i64 t13.last.view) :: (t13.last.dig.cells ++ ((Value.int .i64 t13.prep.view) :: (t13.prep.dig.cells ++ ((Value.map (some r21.m1)) :: ((Value.map (some r21.m2)) :: (r21.vq :: []))))))), r21.o1, q40, r21.vq, r21.oq⟩ (SlotS.mk t13.last t13.prep t13.pre ((mput t13.com node ((Wd.mk view d)))) t13.q) (fun _ _ h => h) rfl ⟨rfl, hM27, hM41, hq29, hS24.ql⟩)⟩), (by simp only [hearI, saysI, wordOf, hf12, h31, h32, h33, h34, h39, ta_, zne])⟩)
      ·
       refine wcCondT rfl <| wcSeq <| wcRegion <| V_ (opLoadRow (cs := (((mget t13.com node).getD (Wd.mk 0 Dig.zero))).cells) rfl (hB.range (i := 0) (m := 33) rfl (by simp [cl_])) row78 (by simp [cl_])) <| M_ rfl <| V_ (opLoadRow (cs := d.cells) rfl (hB.range (i := 1) (m := 32) rfl (by simp [cl_])) row37 (by simp [cl_])) ?_
       refine wlCallS hC hB rfl co50 rfl rfl (goes_ret _ _ hC.holds (((mget t13.com node).getD (Wd.mk 0 Dig.zero))) view d) ?_; intro w hk hC hB
       refine A_ rfl ?_
       refine wlThen (wcSeq (wcRegion ?_))
       refine M_ rfl <| V_ (opNeq rfl rfl) <| wlThen ?_
       cases h44 : (((goesI (((mget t13.com node).getD (Wd.mk 0 Dig.zero))) view d))) != 0
       ·
        refine wcCondF rfl <| wcSkip <| wcOf <| wcSeq <| wcRegion <| M_ rfl <| M_ rfl <| M_ rfl <| V_ (opLoadRow (cs := d.cells) rfl (hB.range (i := 1) (m := 32) rfl (by simp [cl_])) row37 (by simp [cl_])) <| V_ (B_ (ps := [(0, .tmp 75), (1, .tmp 76)]) (cs := ((.int .i64 view) :: (d.cells ++ []))) so78 zero78 rfl rfl) ?_
        obtain ⟨q45, hM46, hr47, hit48⟩ := hM28.put (keyL_int ui3) mk79 (isWd' _ ((Wd.mk view d))) node
        refine wlMapPutH hC hB (i := 4) rfl rfl rfl rfl (hr47 _ _ (hC.heldAt 4 rfl)) rfl ?_; intro w hC hB
        refine wlThen (wcSeq (wcRegion ?_))
        refine A_ rfl <| wlThen <| wcRet ?_
        exact r1_ hQ rfl rfl (endT hC _ ⟨[], List.Perm.of_eq (List.append_nil _).symm⟩ ⟨(by have e_ : (hearI false s node view k d leads).1 = (SlS.mk s.crew s.low (upd s.f k (SlotS.mk t13.last t13.prep t13.pre ((mput t13.com node ((Wd.mk view d)))) t13.q))) := (by simp only [hearI, saysI, wordOf, hf12, h31, h32, h33, h34, h39, h44, ta_, zne]); rw [e_]; exact ⟨_, _, _, _, _, rfl, hn6, hM7, (hR26 _ ⟨r21.p, r21.m1, r21.m2, ((Value.int .i64 t13.last.view) :: (t13.last.dig.cells ++ ((Value.int .i64 t13.prep.view) :: (t13.prep.dig.cells ++ ((Value.map (some r21.m1)) :: ((Value.map (some r21.m2)) :: (r21.vq :: []))))))), r21.o1, q45, r21.vq, r21.oq⟩ (SlotS.mk t13.last t13.prep t13.pre ((mput t13.com node ((Wd.mk view d)))) t13.q) (fun _ _ h => h) rfl ⟨rfl, hM27, hM46, hq29, hS24.ql⟩)⟩), (by simp only [hearI, saysI, wordOf, hf12, h31, h32, h33, h34, h39, h44, ta_, zne])⟩)
       ·
        refine wcCondT rfl <| wcSeq <| wcRegion <| M_ rfl <| A_ rfl <| wlThen <| wcRet ?_
        exact r1_ hQ rfl rfl (endT hC _ ⟨[], List.Perm.of_eq (List.append_nil _).symm⟩ ⟨(by have e_ : (hearI false s node view k d leads).1 = (SlS.mk s.crew s.low (upd s.f k t13)) := (by rw [show (SlS.mk s.crew s.low (upd s.f k t13)) = s from slS_self hf12]; simp only [hearI, saysI, wordOf, hf12, h31, h32, h33, h34, h39, h44, ta_, zne]); rw [e_]; exact ⟨_, _, _, _, _, rfl, hn6, hM7, (hR26 _ ⟨r21.p, r21.m1, r21.m2, ((Value.int .i64 t13.last.view) :: (t13.last.dig.cells ++ ((Value.int .i64 t13.prep.view) :: (t13.prep.dig.cells ++ ((Value.map (some r21.m1)) :: ((Value.map (some r21.m2)) :: (r21.vq :: []))))))), r21.o1, r21.o2, r21.vq, r21.oq⟩ t13 (fun _ _ h => h) rfl ⟨rfl, hM27, hM28, hq29, hS24.ql⟩)⟩), (by simp only [hearI, saysI, wordOf, hf12, h31, h32, h33, h34, h39, h44, ta_, zne])⟩)
     ·
      refine wcCondT rfl <| wcSeq <| wcRegion <| A_ rfl <| wlThen <| wcRet ?_
      exact r1_ hQ rfl rfl (endT hC _ ⟨[], List.Perm.of_eq (List.append_nil _).symm⟩ ⟨(by have e_ : (hearI false s node view k d leads).1 = (SlS.mk s.crew s.low (upd s.f k t13)) := (by rw [show (SlS.mk s.crew s.low (upd s.f k t13)) = s from slS_self hf12]; simp only [hearI, saysI, wordOf, hf12, h31, h32, h33, h34, ta_, zne]); rw [e_]; exact ⟨_, _, _, _, _, rfl, hn6, hM7, (hR26 _ ⟨r21.p, r21.m1, r21.m2, ((Value.int .i64 t13.last.view) :: (t13.last.dig.cells ++ ((Value.int .i64 t13.prep.view) :: (t13.prep.dig.cells ++ ((Value.map (some r21.m1)) :: ((Value.map (some r21.m2)) :: (r21.vq :: []))))))), r21.o1, r21.o2, r21.vq, r21.oq⟩ t13 (fun _ _ h => h) rfl ⟨rfl, hM27, hM28, hq29, hS24.ql⟩)⟩), (by simp only [hearI, saysI, wordOf, hf12, h31, h32, h33, h34, ta_, zne])⟩)
    ·
     refine wlOff rfl rfl rfl rfl <| wlOff rfl rfl rfl rfl <| wlOff rfl rfl rfl rfl <| wlOff rfl rfl rfl rfl <| wlOff rfl rfl rfl rfl <| wlOff rfl rfl rfl rfl <| wlOff rfl rfl rfl rfl <| wlOff rfl rfl rfl rfl <| V_ (opPickF rfl rfl) <| A_ rfl <| wlThen <| wcCondF rfl <| wcSeq <| wcRegion <| M_ rfl <| V_ (OpVal.cast (v' := .bool false) (opPtrNil ip75 rfl rfl) rfl) <| A_ rfl <| wlThen <| wcCondF rfl <| wcSkip <| wcOf ?_
     refine wcSeq <| wcRegion <| M_ rfl <| M_ rfl ?_
     refine wlCallS hC hB rfl co58 rfl rfl (RetS.lend hC (fun G_ hg_ hh_ hL_ => words2_ret _ _ hh_ _ _ _ _ _ _ (hL_ (r21.p, .cells ((.int .i64 t13.last.view) :: (t13.last.dig.cells ++ ((.int .i64 t13.prep.view) :: (t13.prep.dig.cells ++ ((.map (some r21.m1)) :: ((.map (some r21.m2)) :: (r21.vq :: []))))))).toArray 81 (0, 0)) (by simp)))) ?_; intro w hk hC hB
     refine A_ rfl ?_
     refine wlThen (wcSeq (wcSeq (wcRegion ?_)))
     refine M_ rfl <| M_ rfl ?_
     obtain ⟨v49, hv50, hr51⟩ := hM28.lookupOk (keyL_int ui3) mk79 zv78 (isWd' _ (Wd.mk 0 Dig.zero)) node
     obtain rfl := isWd hv50
     refine V_ (opLookup2H rfl rfl (hr51 _ _ (hC.heldAt 4 rfl))) <| M_ rfl <| V_ (opExtract rfl rfl) <| V_ (opExtract rfl rfl) ?_
     refine wlAlloc hC hB zero78 rfl ?_; intro b52 w hk hC hB
     refine wlStore 0 (vs := (((mget t13.com node).getD (Wd.mk 0 Dig.zero))).cells) (cs := ((.int .i64 0) :: (Dig.zero.cells ++ []))) (cs' := (((mget t13.com node).getD (Wd.mk 0 Dig.zero))).cells) hC hB rfl rfl rfl sz78 rfl (by simp [cl_]) (by simp [cl_, Value.oneCell']) (by simp [cl_]) (by simp [cl_]) rfl ?_; intro w hC hB
     refine A_ rfl ?_
     refine wlThen (wcSeq (wcRegion ?_))
     refine M_ rfl <| wlThen ?_
     cases h53 : (mget t13.com node).isSome
     ·
      refine wcCondF rfl <| wcSkip <| wcOf <| wcSeq <| wcRegion <| M_ rfl <| M_ rfl <| M_ rfl <| V_ (opLoadRow (cs := d.cells) rfl (hB.range (i := 1) (m := 32) rfl (by simp [cl_])) row37 (by simp [cl_])) <| V_ (B_ (ps := [(0, .tmp 75), (1, .tmp 76)]) (cs := ((.int .i64 view) :: (d.cells ++ []))) so78 zero78 rfl rfl) ?_
      obtain ⟨q54, hM55, hr56, hit57⟩ := hM28.put (keyL_int ui3) mk79 (isWd' _ ((Wd.mk view d))) node
      refine wlMapPutH hC hB (i := 4) rfl rfl rfl rfl (hr56 _ _ (hC.heldAt 4 rfl)) rfl ?_; intro w hC hB
      refine wlThen (wcSeq (wcRegion ?_))
      refine A_ rfl <| wlThen <| wcRet ?_
      exact r1_ hQ rfl rfl (endT hC _ ⟨[], List.Perm.of_eq (List.append_nil _).symm⟩ ⟨(by have e_ : (hearI false s node view k d leads).1 = (SlS.mk s.crew s.low (upd s.f k (SlotS.mk t13.last t13.prep t13.pre ((mput t13.com node ((Wd.mk view d)))) t13.q))) := (by simp only [hearI, saysI, wordOf, hf12, h31, h32, h33, h53, ta_, zne]); rw [e_]; exact ⟨_, _, _, _, _, rfl, hn6, hM7, (hR26 _ ⟨r21.p, r21.m1, r21.m2, ((Value.int .i64 t13.last.view) :: (t13.last.dig.cells ++ ((Value.int .i64 t13.prep.view) :: (t13.prep.dig.cells ++ ((Value.map (some r21.m1)) :: ((Value.map (some r21.m2)) :: (r21.vq :: []))))))), r21.o1, q54, r21.vq, r21.oq⟩ (SlotS.mk t13.last t13.prep t13.pre ((mput t13.com node ((Wd.mk view d)))) t13.q) (fun _ _ h => h) rfl ⟨rfl, hM27, hM55, hq29, hS24.ql⟩)⟩), (by simp only [hearI, saysI, wordOf, hf12, h31, h32, h33, h53, ta_, zne])⟩)
     ·
      refine wcCondT rfl <| wcSeq <| wcRegion <| V_ (opLoadRow (cs := (((mget t13.com node).getD (Wd.mk 0 Dig.zero))).cells) rfl (hB.range (i := 0) (m := 33) rfl (by simp [cl_])) row78 (by simp [cl_])) <| M_ rfl <| V_ (opLoadRow (cs := d.cells) rfl (hB.range (i := 1) (m := 32) rfl (by simp [cl_])) row37 (by simp [cl_])) ?_
      refine wlCallS hC hB rfl co50 rfl rfl (goes_ret _ _ hC.holds (((mget t13.com node).getD (Wd.mk 0 Dig.zero))) view d) ?_; intro w hk hC hB
      refine A_ rfl ?_
      refine wlThen (wcSeq (wcRegion ?_))
      refine M_ rfl <| V_ (opNeq rfl rfl) <| wlThen ?_
      cases h58 : (((goesI (((mget t13.com node).getD (Wd.mk 0 Dig.zero))) view d))) != 0
      ·
       refine wcCondF rfl <| wcSkip <| wcOf <| wcSeq <| wcRegion <| M_ rfl <| M_ rfl <| M_ rfl <| V_ (opLoadRow (cs := d.cells) rfl (hB.range (i := 1) (m := 32) rfl (by simp [cl_])) row37 (by simp [cl_])) <| V_ (B_ (ps := [(0, .tmp 75), (1, .tmp 76)]) (cs := ((.int .i64 view) :: (d.cells ++ []))) so78 zero78 rfl rfl) ?_
       obtain ⟨q59, hM60, hr61, hit62⟩ := hM28.put (keyL_int ui3) mk79 (isWd' _ ((Wd.mk view d))) node
       refine wlMapPutH hC hB (i := 4) rfl rfl rfl rfl (hr61 _ _ (hC.heldAt 4 rfl)) rfl ?_; intro w hC hB
       refine wlThen (wcSeq (wcRegion ?_))
       refine A_ rfl <| wlThen <| wcRet ?_
       exact r1_ hQ rfl rfl (endT hC _ ⟨[], List.Perm.of_eq (List.append_nil _).symm⟩ ⟨(by have e_ : (hearI false s node view k d leads).1 = (SlS.mk s.crew s.low (upd s.f k (SlotS.mk t13.last t13.prep t13.pre ((mput t13.com node ((Wd.mk view d)))) t13.q))) := (by simp only [hearI, saysI, wordOf, hf12, h31, h32, h33, h53, h58, ta_, zne]); rw [e_]; exact ⟨_, _, _, _, _, rfl, hn6, hM7, (hR26 _ ⟨r21.p, r21.m1, r21.m2, ((Value.int .i64 t13.last.view) :: (t13.last.dig.cells ++ ((Value.int .i64 t13.prep.view) :: (t13.prep.dig.cells ++ ((Value.map (some r21.m1)) :: ((Value.map (some r21.m2)) :: (r21.vq :: []))))))), r21.o1, q59, r21.vq, r21.oq⟩ (SlotS.mk t13.last t13.prep t13.pre ((mput t13.com node ((Wd.mk view d)))) t13.q) (fun _ _ h => h) rfl ⟨rfl, hM27, hM60, hq29, hS24.ql⟩)⟩), (by simp only [hearI, saysI, wordOf, hf12, h31, h32, h33, h53, h58, ta_, zne])⟩)
      ·
       refine wcCondT rfl <| wcSeq <| wcRegion <| M_ rfl <| A_ rfl <| wlThen <| wcRet ?_
       exact r1_ hQ rfl rfl (endT hC _ ⟨[], List.Perm.of_eq (List.append_nil _).symm⟩ ⟨(by have e_ : (hearI false s node view k d leads).1 = (SlS.mk s.crew s.low (upd s.f k t13)) := (by rw [show (SlS.mk s.crew s.low (upd s.f k t13)) = s from slS_self hf12]; simp only [hearI, saysI, wordOf, hf12, h31, h32, h33, h53, h58, ta_, zne]); rw [e_]; exact ⟨_, _, _, _, _, rfl, hn6, hM7, (hR26 _ ⟨r21.p, r21.m1, r21.m2, ((Value.int .i64 t13.last.view) :: (t13.last.dig.cells ++ ((Value.int .i64 t13.prep.view) :: (t13.prep.dig.cells ++ ((Value.map (some r21.m1)) :: ((Value.map (some r21.m2)) :: (r21.vq :: []))))))), r21.o1, r21.o2, r21.vq, r21.oq⟩ t13 (fun _ _ h => h) rfl ⟨rfl, hM27, hM28, hq29, hS24.ql⟩)⟩), (by simp only [hearI, saysI, wordOf, hf12, h31, h32, h33, h53, h58, ta_, zne])⟩)

theorem commit_ret (G0 : Gh) (w0 : World) (hw : Holds G0 w0) (bs : Nat) (Os : List (Nat × Obj)) (s : SlS) (hOs : ∀ x ∈ Os, w0.heap[x.1]? = some x.2 ∧ G0 x.1 = none) (hds : (Os.map (·.1)).Nodup) (hs : SlO G0 bs Os s) (node : Int) (view : Int) (k : Int) (d : Dig) :
  RetT Tryz.prog 15 #[.pointer (some ⟨bs, 0, none⟩), .int .i64 node, .int .i64 view, .int .i64 k, .agg d.cells.toArray] G0 w0 (List.map (·.1) Os) (fun G O v => SlO G bs O (hearI false s node view k d true).1 ∧ v = .int .i64 (hearI false s node view k d true).2) := by
 have hC := Cx.refl hw
 have hB : Bxs G0 w0 w0.heap.size [] := Bxs.nil _ _ _
 obtain ⟨v1, l2, om3, D4, H5, rfl, hn6, hM7, hH8⟩ := hs
 obtain ⟨A9, cap10, rfl⟩ := hn6.form
 have hC := Cx.reflH ((bs, .cells [(.int .i64 s.crew.faults), (.slice A9 s.crew.nodes.length cap10), (.int .i64 s.low), (.map (some l2))].toArray 56 (0, 0)) :: (l2, om3) :: H5) (List.map (·.1) ((bs, .cells [(.int .i64 s.crew.faults), (.slice A9 s.crew.nodes.length cap10), (.int .i64 s.low), (.map (some l2))].toArray 56 (0, 0)) :: (l2, om3) :: H5)) hw (fun x hx => ⟨(hOs x hx).1, (hOs x hx).2, List.mem_map.2 ⟨x, hx, rfl⟩⟩) hds
 have hB : Bxs G0 w0 w0.heap.size [] ⟨(List.map (·.1) ((bs, .cells [(.int .i64 s.crew.faults), (.slice A9 s.crew.nodes.length cap10), (.int .i64 s.low), (.map (some l2))].toArray 56 (0, 0)) :: (l2, om3) :: H5)), ((bs, .cells [(.int .i64 s.crew.faults), (.slice A9 s.crew.nodes.length cap10), (.int .i64 s.low), (.map (some l2))].toArray 56 (0, 0)) :: (l2, om3) :: H5)⟩ := Bxs.nil _ _ _
 refine callsOf Tryz.func15 rfl _ Tryz.ntmps15 rfl _ (argsCons (argsCons (argsCons (argsCons (argsCons argsNil (t := 0) rfl) (t := 1) rfl) (t := 2) rfl) (t := 3) rfl) (t := 4) rfl) ?_; intro Q0 hQ
 refine wcSeq <| wcRegion ?_
 refine wlBox (cs := d.cells) hC hB rfl rfl rfl ?_; intro b11 w hk hC hB
 refine A_ rfl ?_
 refine wlThen (wcSeq (wcRegion ?_))
 refine M_ rfl <| M_ rfl <| M_ rfl <| M_ rfl <| V_ (opLoadRow (cs := d.cells) rfl (hB.range (i := 0) (m := 32) rfl (by simp [cl_])) row37 (by simp [cl_])) ?_
 refine wlCallW hC hB rfl co56 rfl rfl (hearC_ret _ _ hC.holds bs _ s (fun x hx => ⟨(hC.held x hx).1, (hC.held x hx).2.1⟩) hC.hnd ⟨_, _, _, _, _, rfl, hn6, hM7, hH8⟩ node view k d true) ?_; rintro v12 G O13 w hg hC hB ⟨hs14, rfl⟩
 obtain ⟨v15, l16, om17, D18, H19, rfl, hn20, hM21, hH22⟩ := hs14
 obtain ⟨A23, cap24, rfl⟩ := hn20.form
 refine A_ rfl <| wlThen <| wcRet ?_
 exact r1_ hQ rfl rfl (endT hC _ ⟨[], List.Perm.of_eq (List.append_nil _).symm⟩ ⟨⟨_, _, _, _, _, rfl, hn20, hM21, hH22⟩, rfl⟩)

theorem look_ret (G0 : Gh) (w0 : World) (hw : Holds G0 w0) (bs : Nat) (Os : List (Nat × Obj)) (s : SlS) (k : Int) (t : SlotS) (p : Nat) (hOs : ∀ x ∈ Os, w0.heap[x.1]? = some x.2 ∧ G0 x.1 = none) (hds : (Os.map (·.1)).Nodup) (hs : SlOp G0 bs Os s k t p)  (hsil : RowG G0 0 0 silence.cells) :
  RetT Tryz.prog 55 #[.pointer (some ⟨bs, 0, none⟩), .pointer (some ⟨p, 0, none⟩)] G0 w0 (List.map (·.1) Os) (fun G O v => SlO G bs O (SlS.mk s.crew s.low (upd s.f k (lookS s.crew t))) ∧ v = .tuple #[]) := by
 have hC := Cx.refl hw
 have hB : Bxs G0 w0 w0.heap.size [] := Bxs.nil _ _ _
 obtain ⟨v1, l2, om3, D4, r5, H6, rfl, hn7, hM8, hS9, rfl, hR10⟩ := hs
 obtain ⟨A15, cap16, rfl⟩ := hn7.form
 have hM11 := hS9.pre
 have hM12 := hS9.com
 have hq13 := hS9.q
 have hc14 : r5.c = ((.int .i64 t.last.view) :: (t.last.dig.cells ++ ((.int .i64 t.prep.view) :: (t.prep.dig.cells ++ ((.map (some r5.m1)) :: ((.map (some r5.m2)) :: (r5.vq :: []))))))) := hS9.c
 have hC := Cx.reflH ((bs, .cells [(.int .i64 s.crew.faults), (.slice A15 s.crew.nodes.length cap16), (.int .i64 s.low), (.map (some l2))].toArray 56 (0, 0)) :: (l2, om3) :: (r5.blocks ++ H6)) (List.map (·.1) ((bs, .cells [(.int .i64 s.crew.faults), (.slice A15 s.crew.nodes.length cap16), (.int .i64 s.low), (.map (some l2))].toArray 56 (0, 0)) :: (l2, om3) :: (r5.blocks ++ H6))) hw (fun x hx => ⟨(hOs x hx).1, (hOs x hx).2, List.mem_map.2 ⟨x, hx, rfl⟩⟩) hds
 replace hC : Cx w0 G0 G0 w0 ⟨(List.map (·.1) ((bs, .cells [(.int .i64 s.crew.faults), (.slice A15 s.crew.nodes.length cap16), (.int .i64 s.low), (.map (some l2))].toArray 56 (0, 0)) :: (l2, om3) :: (r5.blocks ++ H6))), ((bs, .cells [(.int .i64 s.crew.faults), (.slice A15 s.crew.nodes.length cap16), (.int .i64 s.low), (.map (some l2))].toArray 56 (0, 0)) :: (l2, om3) :: (r5.p, .cells ((.int .i64 t.last.view) :: (t.last.dig.cells ++ ((.int .i64 t.prep.view) :: (t.prep.dig.cells ++ ((.map (some r5.m1)) :: ((.map (some r5.m2)) :: (r5.vq :: []))))))).toArray 81 (0, 0)) :: (r5.m1, r5.o1) :: (r5.m2, r5.o2) :: (ob r5.oq ++ H6))⟩ := by rw [← hc14]; exact hC
 have hB : Bxs G0 w0 w0.heap.size [] ⟨(List.map (·.1) ((bs, .cells [(.int .i64 s.crew.faults), (.slice A15 s.crew.nodes.length cap16), (.int .i64 s.low), (.map (some l2))].toArray 56 (0, 0)) :: (l2, om3) :: (r5.blocks ++ H6))), ((bs, .cells [(.int .i64 s.crew.faults), (.slice A15 s.crew.nodes.length cap16), (.int .i64 s.low), (.map (some l2))].toArray 56 (0, 0)) :: (l2, om3) :: (r5.p, .cells ((.int .i64 t.last.view) :: (t.last.dig.cells ++ ((.int .i64 t.prep.view) :: (t.prep.dig.cells ++ ((.map (some r5.m1)) :: ((.map (some r5.m2)) :: (r5.vq :: []))))))).toArray 81 (0, 0)) :: (r5.m1, r5.o1) :: (r5.m2, r5.o2) :: (ob r5.oq ++ H6))⟩ := Bxs.nil _ _ _
 refine callsOfN Tryz.func55 rfl _ Tryz.ntmps55 rfl _ (argsCons (argsCons argsNil (t := 0) rfl) (t := 1) rfl) ?_; intro Q0 hQ hN
 refine wcSeq <| wcRegion <| M_ rfl <| M_ rfl ?_
 refine wlCallS hC hB rfl co59 rfl rfl (RetS.lend hC (fun G_ hg_ hh_ hL_ => ready_ret _ _ hh_ bs l2 _ s (hL_ (bs, .cells [(.int .i64 s.crew.faults), (.slice A15 s.crew.nodes.length cap16), (.int .i64 s.low), (.map (some l2))].toArray 56 (0, 0)) (by simp)) (hn7.mono hg_) ⟨r5.p, r5.m1, r5.m2, ((.int .i64 t.last.view) :: (t.last.dig.cells ++ ((.int .i64 t.prep.view) :: (t.prep.dig.cells ++ ((.map (some r5.m1)) :: ((.map (some r5.m2)) :: (r5.vq :: []))))))), r5.o1, r5.o2, r5.vq, r5.oq⟩ t (fun y hy => hL_ y (List.mem_cons_of_mem _ (List.mem_cons_of_mem _ (List.mem_append_left _ hy)))) ⟨rfl, (hM11.mono hg_), (hM12.mono hg_), (hq13.mono hg_), hS9.ql⟩ (hsil.mono hg_))) ?_; intro w hk hC hB
 refine wlThen ?_
 cases h17 : ((readyI s.crew t))
 ·
  refine wcCondF rfl <| wcSkip ?_
  exact fun ac_ ha => hN _ _ _ (results0 ha rfl) ha.df (endT hC _ ⟨[], List.Perm.of_eq (List.append_nil _).symm⟩ ⟨(by have e_ : (SlS.mk s.crew s.low (upd s.f k (lookS s.crew t))) = (SlS.mk s.crew s.low (upd s.f k t)) := (by simp only [lookS, h17, ta_]); rw [e_]; exact ⟨_, _, _, _, _, rfl, hn7, hM8, (hR10 _ ⟨r5.p, r5.m1, r5.m2, ((Value.int .i64 t.last.view) :: (t.last.dig.cells ++ ((Value.int .i64 t.prep.view) :: (t.prep.dig.cells ++ ((Value.map (some r5.m1)) :: ((Value.map (some r5.m2)) :: (r5.vq :: []))))))), r5.o1, r5.o2, r5.vq, r5.oq⟩ t (fun _ _ h => h) rfl ⟨rfl, hM11, hM12, hq13, hS9.ql⟩)⟩), rfl⟩)
 ·
  refine wcCondT rfl <| wcRegion <| M_ rfl <| M_ rfl <| V_ (opNilCheck rfl) <| V_ (opFieldAddr rfl fo81_0) <| V_ (opLoadRow (cs := t.last.cells) rfl (hC.hrange 2 rfl (o := 0) (m := 33) (by simp [cl_])) row78 (by simp [cl_])) <| V_ (opNilCheck rfl) <| V_ (opFieldAddr rfl fo81_1) ?_
  obtain ⟨hC, hB⟩ := unhold hC hB (i := 2) rfl
  refine wlStore 0 (vs := t.last.cells) (cs := ((.int .i64 t.last.view) :: (t.last.dig.cells ++ ((.int .i64 t.prep.view) :: (t.prep.dig.cells ++ ((.map (some r5.m1)) :: ((.map (some r5.m2)) :: (r5.vq :: [])))))))) (cs' := ((.int .i64 t.last.view) :: (t.last.dig.cells ++ ((.int .i64 t.last.view) :: (t.last.dig.cells ++ ((.map (some r5.m1)) :: ((.map (some r5.m2)) :: (r5.vq :: [])))))))) hC hB rfl rfl rfl sz78 rfl (by simp [cl_]) (by simp [cl_, Value.oneCell']) (by simp [cl_]) (by simp [cl_]) rfl ?_; intro w hC hB
  obtain ⟨hC, hB⟩ := hold hC hB (i := 0) rfl
  replace hC := hC.permH (List.perm_middle (l₁ := [(bs, Obj.cells [(.int .i64 s.crew.faults), (.slice A15 s.crew.nodes.length cap16), (.int .i64 s.low), (.map (some l2))].toArray 56 (0, 0)), (l2, om3)]) (l₂ := ((r5.m1, r5.o1) :: (r5.m2, r5.o2) :: (ob r5.oq ++ H6)))).symm
  replace hB := hB.permH (List.perm_middle (l₁ := [(bs, Obj.cells [(.int .i64 s.crew.faults), (.slice A15 s.crew.nodes.length cap16), (.int .i64 s.low), (.map (some l2))].toArray 56 (0, 0)), (l2, om3)]) (l₂ := ((r5.m1, r5.o1) :: (r5.m2, r5.o2) :: (ob r5.oq ++ H6)))).symm
  refine wlNil ?_
  exact fun ac_ ha => hN _ _ _ (results0 ha rfl) ha.df (endT hC _ ⟨[], List.Perm.of_eq (List.append_nil _).symm⟩ ⟨(by have e_ : (SlS.mk s.crew s.low (upd s.f k (lookS s.crew t))) = (SlS.mk s.crew s.low (upd s.f k (SlotS.mk t.last t.last t.pre t.com t.q))) := (by simp only [lookS, h17, ta_]); rw [e_]; exact ⟨_, _, _, _, _, rfl, hn7, hM8, (hR10 _ ⟨r5.p, r5.m1, r5.m2, ((Value.int .i64 t.last.view) :: (t.last.dig.cells ++ ((Value.int .i64 t.last.view) :: (t.last.dig.cells ++ ((Value.map (some r5.m1)) :: ((Value.map (some r5.m2)) :: (r5.vq :: []))))))), r5.o1, r5.o2, r5.vq, r5.oq⟩ (SlotS.mk t.last t.last t.pre t.com t.q) (fun _ _ h => h) rfl ⟨rfl, hM11, hM12, hq13, hS9.ql⟩)⟩), rfl⟩)

theorem prepare_ret (G0 : Gh) (w0 : World) (hw : Holds G0 w0) (bs : Nat) (Os : List (Nat × Obj)) (s : SlS) (hOs : ∀ x ∈ Os, w0.heap[x.1]? = some x.2 ∧ G0 x.1 = none) (hds : (Os.map (·.1)).Nodup) (hs : SlO G0 bs Os s) (node : Int) (view : Int) (k : Int) (d : Dig) (hsil : RowG G0 0 0 silence.cells) :
  RetT Tryz.prog 14 #[.pointer (some ⟨bs, 0, none⟩), .int .i64 node, .int .i64 view, .int .i64 k, .agg d.cells.toArray] G0 w0 (List.map (·.1) Os) (fun G O v => SlO G bs O (prepI s node view k d).1 ∧ v = .int .i64 (prepI s node view k d).2) := by
 have hC := Cx.refl hw
 have hB : Bxs G0 w0 w0.heap.size [] := Bxs.nil _ _ _
 obtain ⟨v1, l2, om3, D4, H5, rfl, hn6, hM7, hH8⟩ := hs
 obtain ⟨A9, cap10, rfl⟩ := hn6.form
 have hC := Cx.reflH ((bs, .cells [(.int .i64 s.crew.faults), (.slice A9 s.crew.nodes.length cap10), (.int .i64 s.low), (.map (some l2))].toArray 56 (0, 0)) :: (l2, om3) :: H5) (List.map (·.1) ((bs, .cells [(.int .i64 s.crew.faults), (.slice A9 s.crew.nodes.length cap10), (.int .i64 s.low), (.map (some l2))].toArray 56 (0, 0)) :: (l2, om3) :: H5)) hw (fun x hx => ⟨(hOs x hx).1, (hOs x hx).2, List.mem_map.2 ⟨x, hx, rfl⟩⟩) hds
 have hB : Bxs G0 w0 w0.heap.size [] ⟨(List.map (·.1) ((bs, .cells [(.int .i64 s.crew.faults), (.slice A9 s.crew.nodes.length cap10), (.int .i64 s.low), (.map (some l2))].toArray 56 (0, 0)) :: (l2, om3) :: H5)), ((bs, .cells [(.int .i64 s.crew.faults), (.slice A9 s.crew.nodes.length cap10), (.int .i64 s.low), (.map (some l2))].toArray 56 (0, 0)) :: (l2, om3) :: H5)⟩ := Bxs.nil _ _ _
 refine callsOf Tryz.func14 rfl _ Tryz.ntmps14 rfl _ (argsCons (argsCons (argsCons (argsCons (argsCons argsNil (t := 0) rfl) (t := 1) rfl) (t := 2) rfl) (t := 3) rfl) (t := 4) rfl) ?_; intro Q0 hQ
 refine wcSeq <| wcRegion ?_
 refine wlBox (cs := d.cells) hC hB rfl rfl rfl ?_; intro b11 w hk hC hB
 refine A_ rfl ?_
 refine wlThen (wcSeq (wcRegion ?_))
 refine M_ rfl <| M_ rfl <| M_ rfl <| M_ rfl <| V_ (opLoadRow (cs := d.cells) rfl (hB.range (i := 0) (m := 32) rfl (by simp [cl_])) row37 (by simp [cl_])) ?_
 refine wlCallW hC hB rfl co56 rfl rfl (hearP_ret _ _ hC.holds bs _ s (fun x hx => ⟨(hC.held x hx).1, (hC.held x hx).2.1⟩) hC.hnd ⟨_, _, _, _, _, rfl, hn6, hM7, hH8⟩ node view k d false) ?_; rintro v12 G O13 w hg hC hB ⟨hs14, rfl⟩
 replace hsil := hsil.mono hg
 obtain ⟨v15, l16, om17, D18, H19, rfl, hn20, hM21, hH22⟩ := hs14
 obtain ⟨A23, cap24, rfl⟩ := hn20.form
 refine A_ rfl ?_
 refine wlThen (wcSeq (wcSeq (wcRegion ?_)))
 refine M_ rfl <| V_ (opEql rfl rfl) <| wlThen ?_
 cases h25 : (((hearI true s node view k d false).2)) == 0
 ·
  refine wcCondF rfl <| wcSkip <| wcOf <| wcSeq <| wcRegion <| M_ rfl <| A_ rfl <| wlThen <| wcRet ?_
  exact r1_ hQ rfl rfl (endT hC _ ⟨[], List.Perm.of_eq (List.append_nil _).symm⟩ ⟨(by have e_ : (prepI s node view k d).1 = ((hearI true s node view k d false).1) := (by simp only [prepI, h25, ta_]); rw [e_]; exact ⟨_, _, _, _, _, rfl, hn20, hM21, hH22⟩), (by simp only [prepI, h25, ta_])⟩)
 ·
  refine wcCondT rfl <| wcRegion <| M_ rfl <| M_ rfl <| V_ (opNilCheck rfl) <| V_ (opFieldAddr rfl fo56_2) <| V_ (opLoadOne (v := (.map (some l16))) rfl (hC.hcell 0 rfl (o := 3) rfl) one54) <| M_ rfl ?_
  obtain ⟨v28, hv29, hr30⟩ := hM21.lookup (keyL_int ui3) mk54 zv75 (isPt' _ (Pt.mk none)) k
  rcases hf26 : ((hearI true s node view k d false).1).f k with _ | t27
  ·
   exact (hearI_dead h25 hf26).elim
  ·
   obtain ⟨r31, H32, hD33, hS34, hp35, hR36⟩ := hH22.at_some hf26
   rw [hD33] at hv29
   replace hv29 : v28 = .pointer (some ⟨r31.p, 0, none⟩) := hv29
   subst hv29
   refine V_ (opLookupH rfl rfl (hr30 _ _ (hC.heldAt 1 rfl))) ?_
   have hM37 := hS34.pre
   have hM38 := hS34.com
   have hq39 := hS34.q
   have hc40 : r31.c = ((.int .i64 t27.last.view) :: (t27.last.dig.cells ++ ((.int .i64 t27.prep.view) :: (t27.prep.dig.cells ++ ((.map (some r31.m1)) :: ((.map (some r31.m2)) :: (r31.vq :: []))))))) := hS34.c
   replace hC : Cx w0 G0 G w ⟨(List.map (·.1) ((bs, .cells [(.int .i64 s.crew.faults), (.slice A9 s.crew.nodes.length cap10), (.int .i64 s.low), (.map (some l2))].toArray 56 (0, 0)) :: (l2, om3) :: H5)), ((bs, .cells [(.int .i64 (((hearI true s node view k d false).1).crew.faults)), (.slice A23 ((((hearI true s node view k d false).1).crew.nodes).length) cap24), (.int .i64 (((hearI true s node view k d false).1).low)), (.map (some l16))].toArray 56 (0, 0)) :: (l16, om17) :: (r31.p, .cells ((.int .i64 t27.last.view) :: (t27.last.dig.cells ++ ((.int .i64 t27.prep.view) :: (t27.prep.dig.cells ++ ((.map (some r31.m1)) :: ((.map (some r31.m2)) :: (r31.vq :: []))))))).toArray 81 (0, 0)) :: (r31.m1, r31.o1) :: (r31.m2, r31.o2) :: (ob r31.oq ++ H32))⟩ := by rw [← hc40]; exact hC.permH ((hp35.cons _).cons _)
   replace hB : Bxs G w w0.heap.size [(b11, 37, d.cells)] ⟨(List.map (·.1) ((bs, .cells [(.int .i64 s.crew.faults), (.slice A9 s.crew.nodes.length cap10), (.int .i64 s.low), (.map (some l2))].toArray 56 (0, 0)) :: (l2, om3) :: H5)), ((bs, .cells [(.int .i64 (((hearI true s node view k d false).1).crew.faults)), (.slice A23 ((((hearI true s node view k d false).1).crew.nodes).length) cap24), (.int .i64 (((hearI true s node view k d false).1).low)), (.map (some l16))].toArray 56 (0, 0)) :: (l16, om17) :: (r31.p, .cells ((.int .i64 t27.last.view) :: (t27.last.dig.cells ++ ((.int .i64 t27.prep.view) :: (t27.prep.dig.cells ++ ((.map (some r31.m1)) :: ((.map (some r31.m2)) :: (r31.vq :: []))))))).toArray 81 (0, 0)) :: (r31.m1, r31.o1) :: (r31.m2, r31.o2) :: (ob r31.oq ++ H32))⟩ := by rw [← hc40]; exact hB.permH ((hp35.cons _).cons _)
   refine wlCallW hC hB rfl co55 rfl rfl (look_ret _ _ hC.holds bs _ ((hearI true s node view k d false).1) k t27 _ (fun x hx => ⟨(hC.held x hx).1, (hC.held x hx).2.1⟩) hC.hnd ⟨_, _, _, _, ⟨r31.p, r31.m1, r31.m2, ((.int .i64 t27.last.view) :: (t27.last.dig.cells ++ ((.int .i64 t27.prep.view) :: (t27.prep.dig.cells ++ ((.map (some r31.m1)) :: ((.map (some r31.m2)) :: (r31.vq :: []))))))), r31.o1, r31.o2, r31.vq, r31.oq⟩, _, rfl, hn20, hM21, ⟨rfl, hM37, hM38, hq39, hS34.ql⟩, rfl, hR36⟩  hsil) ?_; rintro v41 G O42 w hg hC hB ⟨hs43, rfl⟩
   obtain ⟨v44, l45, om46, D47, H48, rfl, hn49, hM50, hH51⟩ := hs43
   obtain ⟨A52, cap53, rfl⟩ := hn49.form
   refine wlThen (wcSeq (wcRegion ?_))
   refine M_ rfl <| A_ rfl <| wlThen <| wcRet ?_
   exact r1_ hQ rfl rfl (endT hC _ ⟨[], List.Perm.of_eq (List.append_nil _).symm⟩ ⟨(by have e_ : (prepI s node view k d).1 = ((SlS.mk ((hearI true s node view k d false).1).crew ((hearI true s node view k d false).1).low (upd ((hearI true s node view k d false).1).f k (lookS ((hearI true s node view k d false).1).crew t27)))) := (by simp only [prepI, h25, hf26, ta_]); rw [e_]; exact ⟨_, _, _, _, _, rfl, hn49, hM50, hH51⟩), (by simp only [prepI, h25, hf26, ta_])⟩)

end Go.Proofs.YtljcgggflgbenaaGreatDoor
