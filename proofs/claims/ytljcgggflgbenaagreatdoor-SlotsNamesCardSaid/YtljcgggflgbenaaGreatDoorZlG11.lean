/- What functions of the slots seat return, part 11. No condition. -/
import Derived.Test.YtljcgggflgbenaaGreatDoorZlG10
set_option linter.all false
namespace Go.Proofs.YtljcgggflgbenaaGreatDoor
open Go Go.Gx Go.RowKit
def kdI (d : Do) : Int := bringI d.kind 5
def stepS (s : SlS) (d : Do) : SlS × Int :=
  bif kdI d == 0 then propI s d.view d.seq d.dig else bif kdI d == 1 then prepI s d.node d.view d.seq d.dig else bif kdI d == 2 then hearI false s d.node d.view d.seq d.dig true else
  bif kdI d == 3 then raiseI s d.seq else restI s d.pp d.qq
def stepR (m : RfS) (d : Do) : RfS × Int :=
  bif kdI d == 0 then propR m d.view d.seq d.dig else bif kdI d == 1 then preR m d.node d.view d.seq d.dig else bif kdI d == 2 then comR m d.node d.view d.seq d.dig else
  bif kdI d == 3 then raiseR m d.seq else restR m d.pp d.qq
theorem SlOk.step {s : SlS} {d : Do} (h : SlOk s) : SlOk (stepS s d).1 := by
  unfold stepS
  cases kdI d == 0 <;> simp only [cond_true, cond_false]
  · cases kdI d == 1 <;> simp only [cond_true, cond_false]
    · cases kdI d == 2 <;> simp only [cond_true, cond_false]
      · cases kdI d == 3 <;> simp only [cond_true, cond_false]
        · exact SlOk.rest h
        · exact SlOk.raise h
      · exact SlOk.hear h
    · exact SlOk.prep h
  · exact SlOk.prop h
/-- All that is told, is told alike. -/
structure Tells (s : SlS) (m : RfS) : Prop where
  low : s.low = m.low
  p : pI s.f (s.low + 1) 8 = pR m 8
  q : qI s.f (s.low + 1) 8 = qR m 8
  at_ : ∀ k, I6 k → atI s k = atR m k
  prep : ∀ k, I6 k → preparedI s k = preparedR m k
  com : ∀ k, I6 k → committedI s k = committedR m k
theorem I6_wrap (x : Int) : I6 (IntKind.wrap .i64 x) := by
  unfold I6; rw [IntKind.wrap_i64]; omega
def errI (c : Crew) (self : Int) : Int := bif check c != 0 || !has c self then 110 else 9
def errR (c : Crew) (self : Int) : Int := bif check c != 0 || !rhasB c self then 110 else 9
/-- What is asked of a list of calls. -/
def DoOk (d : Do) : Prop := I6 d.seq ∧ (∀ x ∈ d.pp, I6 x.seq) ∧ ∀ x ∈ d.qq, I6 x.seq
theorem qI_len4 (f : Int → Option SlotS) (k : Int) (h : ∀ k t, f k = some t → t.q.length ≤ 4) : ∀ i, (qI f k i).length ≤ 4 * i
  | 0 => Nat.le_refl _
  | i + 1 => by
    have := qI_len4 f k h i
    have h : (qAt f (k + i)).length ≤ 4 := by
      unfold qAt; split
      · simp
      · rename_i x hx; exact h _ _ hx
    simp only [qI, List.length_append]; omega
theorem fo40_0 : fieldOk Tryz.prog 40 0 0 = true := by kernel_rfl
theorem co34 : callOk Tryz.prog 34 = true := by kernel_rfl
theorem fo35_0 : fieldOk Tryz.prog 35 0 0 = true := by kernel_rfl
theorem one26 : oneOk Tryz.prog 26 = true := by kernel_rfl
theorem fo40_5 : fieldOk Tryz.prog 40 5 36 = true := by kernel_rfl
theorem fo40_6 : fieldOk Tryz.prog 40 6 37 = true := by kernel_rfl
theorem fo35_1 : fieldOk Tryz.prog 35 1 1 = true := by kernel_rfl
theorem one30 : oneOk Tryz.prog 30 = true := by kernel_rfl
theorem co20 : callOk Tryz.prog 20 = true := by kernel_rfl
theorem co39 : callOk Tryz.prog 39 = true := by kernel_rfl
theorem fo40_3 : fieldOk Tryz.prog 40 3 3 = true := by kernel_rfl
theorem co12 : callOk Tryz.prog 12 = true := by kernel_rfl
theorem co38 : callOk Tryz.prog 38 = true := by kernel_rfl
theorem fo40_1 : fieldOk Tryz.prog 40 1 1 = true := by kernel_rfl
theorem fo40_2 : fieldOk Tryz.prog 40 2 2 = true := by kernel_rfl
theorem fo40_4 : fieldOk Tryz.prog 40 4 4 = true := by kernel_rfl
theorem co37 : callOk Tryz.prog 37 = true := by kernel_rfl
theorem co36 : callOk Tryz.prog 36 = true := by kernel_rfl
theorem co35 : callOk Tryz.prog 35 = true := by kernel_rfl
theorem co40 : callOk Tryz.prog 40 = true := by kernel_rfl
theorem co42 : callOk Tryz.prog 42 = true := by kernel_rfl
theorem co43 : callOk Tryz.prog 43 = true := by kernel_rfl
theorem co10 : callOk Tryz.prog 10 = true := by kernel_rfl
theorem co44 : callOk Tryz.prog 44 = true := by kernel_rfl
theorem ub4 : Tryz.prog.underlying 4 = some .bool := by kernel_rfl
theorem co46 : callOk Tryz.prog 46 = true := by kernel_rfl
theorem step_ret (G0 : Gh) (w0 : World) (hw : Holds G0 w0) (bs : Nat) (Os : List (Nat × Obj)) (s : SlS) (bm : Nat) (Om : List (Nat × Obj)) (m : RfS) (hO : ∀ x ∈ Os ++ Om, w0.heap[x.1]? = some x.2 ∧ G0 x.1 = none) (hdd : ((Os ++ Om).map (·.1)).Nodup) (hs : SlO G0 bs Os s) (hm : RfO G0 bm Om m) (csd : List Value) (d : Do) (hd : Rp.Is G0 csd d) (hsil : RowG G0 0 0 silence.cells) (hok : SlOk s) (hdo : DoOk d) (hlq : d.qq.length ≤ 1000000) :
  RetT Tryz.prog 8 #[.agg [.pointer (some ⟨bs, 0, none⟩), .pointer (some ⟨bm, 0, none⟩)].toArray, .agg csd.toArray] G0 w0 (List.map (·.1) (Os ++ Om)) (fun G O v_ => ∃ O1 O2, O = O1 ++ O2 ∧ SlO G bs O1 (stepS s d).1 ∧ RfO G bm O2 (stepR m d).1 ∧ v_ = .bool ((stepS s d).2 == (stepR m d).2)) := by
 have hC := Cx.refl hw
 have hB : Bxs G0 w0 w0.heap.size [] := Bxs.nil _ _ _
 have hC := Cx.reflH (Os ++ Om) (List.map (·.1) (Os ++ Om)) hw (fun x hx => ⟨(hO x hx).1, (hO x hx).2, List.mem_map.2 ⟨x, hx, rfl⟩⟩) hdd
 replace hC : Cx w0 G0 G0 w0 ⟨(List.map (·.1) (Os ++ Om)), (Os ++ (Om ++ []))⟩ := by rw [List.append_nil]; exact hC
 have hB : Bxs G0 w0 w0.heap.size [] ⟨(List.map (·.1) (Os ++ Om)), (Os ++ (Om ++ []))⟩ := Bxs.nil _ _ _
 have OKm := hm.1
 obtain ⟨v1, lb2, so3, cp4, lc5, R6, H7, hN8⟩ := hm.names
 have hn9 := hN8.n
 obtain ⟨A10, cap11, rfl⟩ := hn9.form
 obtain ⟨v12, v14, rfl, hs13, hs15⟩ := Do.opIs hd
 obtain ⟨A16, cap17, rfl⟩ := hs13.form
 obtain ⟨A18, cap19, rfl⟩ := hs15.form
 refine callsOf Tryz.func8 rfl _ Tryz.ntmps8 rfl _ (argsCons (argsCons argsNil (t := 0) rfl) (t := 1) rfl) ?_; intro Q0 hQ
 refine wcSeq <| wcRegion ?_
 refine wlBox (cs := [(.pointer (some ⟨bs, 0, none⟩)), (.pointer (some ⟨bm, 0, none⟩))]) hC hB rfl rfl rfl ?_; intro b20 w hk hC hB
 refine wlBox (cs := ((.int .i64 d.kind) :: ((.int .i64 d.node) :: ((.int .i64 d.view) :: ((.int .i64 d.seq) :: (d.dig.cells ++ ((.slice A16 d.pp.length cap17) :: ((.slice A18 d.qq.length cap19) :: [])))))))) hC hB rfl rfl rfl ?_; intro b21 w hk hC hB
 refine A_ rfl ?_
 refine wlThen (wcSeq (wcSeq (wcRegion ?_)))
 refine V_ (opFieldAddr rfl fo40_0) <| V_ (opLoadOne (v := (.int .i64 d.kind)) rfl (hB.cell (i := 0) rfl (by simp [cl_])) one3) ?_
 refine wlCallS hC hB rfl co34 rfl rfl (bring_ret _ _ hC.holds d.kind 5) ?_; intro w hk hC hB
 refine wlThen ?_
 refine wcBlock (wcSeq (wcRegion ?_))
 refine V_ (opEql rfl rfl) <| A_ rfl <| wlThen ?_
 cases h22 : (((bringI d.kind 5))) == 0
 ·
  refine wcCondF rfl <| wcSeq <| wcRegion <| V_ (opEql rfl rfl) <| A_ rfl <| wlThen ?_
  cases h23 : (((bringI d.kind 5))) == 1
  ·
   refine wcCondF rfl <| wcSeq <| wcRegion <| V_ (opEql rfl rfl) <| A_ rfl <| wlThen ?_
   cases h24 : (((bringI d.kind 5))) == 2
   ·
    refine wcCondF rfl <| wcSeq <| wcRegion <| V_ (opEql rfl rfl) <| A_ rfl <| wlThen ?_
    cases h25 : (((bringI d.kind 5))) == 3
    ·
     refine wcCondF rfl <| wcSkip <| wcOf <| wcSeq ?_
     refine wcDrawS 16 [0, 1, 0, 4, 0, 16, 63, 0, 128, 0, 512, 0, 2048, 8191, 16383, 32767] fmix (by kernel_rfl) (by kernel_rfl) rfl hC hB ?_; intro w hC hB
     refine D_ 0 rfl rfl (fun _ => (opFieldAddr rfl fo35_0)) <| E_ 1 rfl rfl (opLoadOne (v := (.pointer (some ⟨bs, 0, none⟩))) rfl (hB.cell (i := 1) rfl rfl) one26) <| D_ 2 rfl rfl (fun _ => (opFieldAddr rfl fo40_5)) <| E_ 3 rfl rfl (opLoadOne (v := (.slice A16 d.pp.length cap17)) rfl (hB.cell (i := 0) rfl (by simp [cl_])) one38) <| D_ 4 rfl rfl (fun _ => (opFieldAddr rfl fo40_6)) <| E_ 5 rfl rfl (opLoadOne (v := (.slice A18 d.qq.length cap19)) rfl (hB.cell (i := 0) rfl (by simp [cl_])) one38) <| D_ 7 rfl rfl (fun _ => (opFieldAddr rfl fo35_1)) <| E_ 8 rfl rfl (opLoadOne (v := (.pointer (some ⟨bm, 0, none⟩))) rfl (hB.cell (i := 1) rfl rfl) one30) <| D_ 9 rfl rfl (fun _ => (opFieldAddr rfl fo40_5)) <| E_ 10 rfl rfl (opLoadOne (v := (.slice A16 d.pp.length cap17)) rfl (hB.cell (i := 0) rfl (by simp [cl_])) one38) <| D_ 11 rfl rfl (fun _ => (opFieldAddr rfl fo40_6)) <| E_ 12 rfl rfl (opLoadOne (v := (.slice A18 d.qq.length cap19)) rfl (hB.cell (i := 0) rfl (by simp [cl_])) one38) ?_
     refine wdAll [6] (by kernel_rfl) rfl ⟨wd1 rfl ?_, trivial⟩
     intro hGd
     refine wlCallC (O := Os) (B := (Om ++ [])) hC hB rfl co20 rfl rfl (restore_ret _ _ hC.holds bs Os s hC.chunkHeld hC.chunkNd hs _ d.pp hs13 _ d.qq hs15 hsil hok hlq) ?_; rintro v26 G O27 w hg hC hB ⟨hs28, rfl⟩
     replace hN8 := hN8.mono hg; replace hs13 := hs13.mono hg; replace hs15 := hs15.mono hg
     replace hsil := hsil.mono hg
     have hok29 : SlOk ((restI s d.pp d.qq).1) := (SlOk.rest hok)
     refine wdNext hGd rfl (kpKeep rfl (kpKeep rfl (kpKeep rfl (kpDrop rfl (kpDrop rfl (kpDrop rfl kpNil)))))) (Tk.cons (p := (_, fun w => OpVal _ _ _ w _ _)) (opLoadOne (v := (.slice A18 d.qq.length cap19)) rfl (hB.cell (i := 0) rfl (by simp [cl_])) one38) (Tk.cons (p := (_, fun w => OpVal _ _ _ w _ _)) (opLoadOne (v := (.slice A16 d.pp.length cap17)) rfl (hB.cell (i := 0) rfl (by simp [cl_])) one38) (Tk.cons (p := (_, fun w => OpVal _ _ _ w _ _)) (opLoadOne (v := (.pointer (some ⟨bm, 0, none⟩))) rfl (hB.cell (i := 1) rfl rfl) one30) (Tk.nil _)))) ?_
     refine wdAll [13] (by kernel_rfl) rfl ⟨wd1 rfl ?_, trivial⟩
     intro hGd
     replace hC := hC.permH (List.perm_append_comm_assoc O27 Om [])
     replace hB := hB.permH (List.perm_append_comm_assoc O27 Om [])
     refine wlCallC (O := Om) (B := (O27 ++ [])) hC hB rfl co39 rfl rfl (rrestore_ret _ _ hC.holds bm Om m hC.chunkHeld hC.chunkNd hN8.rfo _ d.pp hs13 _ d.qq hs15 hdo.2.1 hdo.2.2) ?_; rintro v30 G O31 w hg hC hB ⟨hs32, rfl⟩
     replace hs28 := hs28.mono hg
     replace hsil := hsil.mono hg
     obtain ⟨v33, lb34, so35, cp36, lc37, R38, H39, hN40⟩ := hs32.names
     have hn41 := hN40.n
     obtain ⟨A42, cap43, rfl⟩ := hn41.form
     refine wdNext hGd rfl (kpDrop rfl (kpDrop rfl (kpDrop rfl kpNil))) (Tk.nil _) ?_
     refine D_ 14 rfl rfl (fun _ => opEql rfl rfl) <| D_ 15 rfl rfl (fun _ => opAssign rfl) <| wdDone (by kernel_rfl) <| wcOf <| wcRet ?_
     replace hC := hC.permH (List.perm_append_comm_assoc O31 O27 [])
     replace hB := hB.permH (List.perm_append_comm_assoc O31 O27 [])
     exact r1_ hQ rfl rfl (endT hC (O27 ++ O31) ⟨[], List.Perm.of_eq (by simp)⟩ ⟨O27, O31, rfl, (by have e_ : (stepS s d).1 = (restI s d.pp d.qq).1 := (by simp only [stepS, stepR, kdI, h22, h23, h24, h25, ta_]); rw [e_]; exact hs28), (by have e_ : (stepR m d).1 = (restR m d.pp d.qq).1 := (by simp only [stepS, stepR, kdI, h22, h23, h24, h25, ta_]); rw [e_]; exact hN40.rfo), (congrArg Value.bool (by simp only [stepS, stepR, kdI, h22, h23, h24, h25, ta_]))⟩)
    ·
     refine wcCondT rfl <| wcSeq ?_
     refine wcDrawS 12 [0, 1, 0, 4, 15, 0, 32, 0, 128, 511, 1023, 2047] fmix (by kernel_rfl) (by kernel_rfl) rfl hC hB ?_; intro w hC hB
     refine D_ 0 rfl rfl (fun _ => (opFieldAddr rfl fo35_0)) <| E_ 1 rfl rfl (opLoadOne (v := (.pointer (some ⟨bs, 0, none⟩))) rfl (hB.cell (i := 1) rfl rfl) one26) <| D_ 2 rfl rfl (fun _ => (opFieldAddr rfl fo40_3)) <| E_ 3 rfl rfl (opLoadOne (v := (.int .i64 d.seq)) rfl (hB.cell (i := 0) rfl (by simp [cl_])) one3) <| D_ 5 rfl rfl (fun _ => (opFieldAddr rfl fo35_1)) <| E_ 6 rfl rfl (opLoadOne (v := (.pointer (some ⟨bm, 0, none⟩))) rfl (hB.cell (i := 1) rfl rfl) one30) <| D_ 7 rfl rfl (fun _ => (opFieldAddr rfl fo40_3)) <| E_ 8 rfl rfl (opLoadOne (v := (.int .i64 d.seq)) rfl (hB.cell (i := 0) rfl (by simp [cl_])) one3) ?_
     refine wdAll [4] (by kernel_rfl) rfl ⟨wd1 rfl ?_, trivial⟩
     intro hGd
     refine wlCallC (O := Os) (B := (Om ++ [])) hC hB rfl co12 rfl rfl (raise_ret _ _ hC.holds bs Os s hC.chunkHeld hC.chunkNd hs d.seq hsil hok) ?_; rintro v44 G O45 w hg hC hB ⟨hs46, rfl⟩
     replace hN8 := hN8.mono hg
     replace hsil := hsil.mono hg
     have hok47 : SlOk ((raiseI s d.seq).1) := (SlOk.raise hok)
     refine wdNext hGd rfl (kpKeep rfl (kpKeep rfl (kpDrop rfl (kpDrop rfl kpNil)))) (Tk.cons (p := (_, fun w => OpVal _ _ _ w _ _)) (opLoadOne (v := (.int .i64 d.seq)) rfl (hB.cell (i := 0) rfl (by simp [cl_])) one3) (Tk.cons (p := (_, fun w => OpVal _ _ _ w _ _)) (opLoadOne (v := (.pointer (some ⟨bm, 0, none⟩))) rfl (hB.cell (i := 1) rfl rfl) one30) (Tk.nil _))) ?_
     refine wdAll [9] (by kernel_rfl) rfl ⟨wd1 rfl ?_, trivial⟩
     intro hGd
     replace hC := hC.permH (List.perm_append_comm_assoc O45 Om [])
     replace hB := hB.permH (List.perm_append_comm_assoc O45 Om [])
     refine wlCallC (O := Om) (B := (O45 ++ [])) hC hB rfl co38 rfl rfl (rraise_ret _ _ hC.holds bm Om m hC.chunkHeld hC.chunkNd hN8.rfo d.seq) ?_; rintro v48 G O49 w hg hC hB ⟨hs50, rfl⟩
     replace hs46 := hs46.mono hg
     replace hsil := hsil.mono hg
     obtain ⟨v51, lb52, so53, cp54, lc55, R56, H57, hN58⟩ := hs50.names
     have hn59 := hN58.n
     obtain ⟨A60, cap61, rfl⟩ := hn59.form
     refine wdNext hGd rfl (kpDrop rfl (kpDrop rfl kpNil)) (Tk.nil _) ?_
     refine D_ 10 rfl rfl (fun _ => opEql rfl rfl) <| D_ 11 rfl rfl (fun _ => opAssign rfl) <| wdDone (by kernel_rfl) <| wcOf <| wcRet ?_
     replace hC := hC.permH (List.perm_append_comm_assoc O49 O45 [])
     replace hB := hB.permH (List.perm_append_comm_assoc O49 O45 [])
     exact r1_ hQ rfl rfl (endT hC (O45 ++ O49) ⟨[], List.Perm.of_eq (by simp)⟩ ⟨O45, O49, rfl, (by have e_ : (stepS s d).1 = (raiseI s d.seq).1 := (by simp only [stepS, stepR, kdI, h22, h23, h24, h25, ta_]); rw [e_]; exact hs46), (by have e_ : (stepR m d).1 = (raiseR m d.seq).1 := (by simp only [stepS, stepR, kdI, h22, h23, h24, h25, ta_]); rw [e_]; exact hN58.rfo), (congrArg Value.bool (by simp only [stepS, stepR, kdI, h22, h23, h24, h25, ta_]))⟩)
   ·
    refine wcCondT rfl <| wcSeq ?_
    refine wcDrawS 24 [0, 1, 0, 4, 0, 16, 0, 64, 0, 256, 1023, 0, 2048, 0, 8192, 0, 32768, 0, 131072, 0, 524288, 2097151, 4194303, 8388607] fmix (by kernel_rfl) (by kernel_rfl) rfl hC hB ?_; intro w hC hB
    refine D_ 0 rfl rfl (fun _ => (opFieldAddr rfl fo35_0)) <| E_ 1 rfl rfl (opLoadOne (v := (.pointer (some ⟨bs, 0, none⟩))) rfl (hB.cell (i := 1) rfl rfl) one26) <| D_ 2 rfl rfl (fun _ => (opFieldAddr rfl fo40_1)) <| E_ 3 rfl rfl (opLoadOne (v := (.int .i64 d.node)) rfl (hB.cell (i := 0) rfl (by simp [cl_])) one3) <| D_ 4 rfl rfl (fun _ => (opFieldAddr rfl fo40_2)) <| E_ 5 rfl rfl (opLoadOne (v := (.int .i64 d.view)) rfl (hB.cell (i := 0) rfl (by simp [cl_])) one3) <| D_ 6 rfl rfl (fun _ => (opFieldAddr rfl fo40_3)) <| E_ 7 rfl rfl (opLoadOne (v := (.int .i64 d.seq)) rfl (hB.cell (i := 0) rfl (by simp [cl_])) one3) <| D_ 8 rfl rfl (fun _ => (opFieldAddr rfl fo40_4)) <| E_ 9 rfl rfl (opLoadRow (cs := d.dig.cells) rfl (hB.range (i := 0) (m := 32) rfl (by simp [cl_])) row37 (by simp [cl_])) <| D_ 11 rfl rfl (fun _ => (opFieldAddr rfl fo35_1)) <| E_ 12 rfl rfl (opLoadOne (v := (.pointer (some ⟨bm, 0, none⟩))) rfl (hB.cell (i := 1) rfl rfl) one30) <| D_ 13 rfl rfl (fun _ => (opFieldAddr rfl fo40_1)) <| E_ 14 rfl rfl (opLoadOne (v := (.int .i64 d.node)) rfl (hB.cell (i := 0) rfl (by simp [cl_])) one3) <| D_ 15 rfl rfl (fun _ => (opFieldAddr rfl fo40_2)) <| E_ 16 rfl rfl (opLoadOne (v := (.int .i64 d.view)) rfl (hB.cell (i := 0) rfl (by simp [cl_])) one3) <| D_ 17 rfl rfl (fun _ => (opFieldAddr rfl fo40_3)) <| E_ 18 rfl rfl (opLoadOne (v := (.int .i64 d.seq)) rfl (hB.cell (i := 0) rfl (by simp [cl_])) one3) <| D_ 19 rfl rfl (fun _ => (opFieldAddr rfl fo40_4)) <| E_ 20 rfl rfl (opLoadRow (cs := d.dig.cells) rfl (hB.range (i := 0) (m := 32) rfl (by simp [cl_])) row37 (by simp [cl_])) ?_
    refine wdAll [10] (by kernel_rfl) rfl ⟨wd1 rfl ?_, trivial⟩
    intro hGd
    refine wlCallC (O := Os) (B := (Om ++ [])) hC hB rfl co15 rfl rfl (commit_ret _ _ hC.holds bs Os s hC.chunkHeld hC.chunkNd hs d.node d.view d.seq d.dig) ?_; rintro v62 G O63 w hg hC hB ⟨hs64, rfl⟩
    replace hN8 := hN8.mono hg
    replace hsil := hsil.mono hg
    have hok65 : SlOk ((hearI false s d.node d.view d.seq d.dig true).1) := (SlOk.hear hok)
    refine wdNext hGd rfl (kpKeep rfl (kpKeep rfl (kpKeep rfl (kpKeep rfl (kpKeep rfl (kpDrop rfl (kpDrop rfl (kpDrop rfl (kpDrop rfl (kpDrop rfl kpNil)))))))))) (Tk.cons (p := (_, fun w => OpVal _ _ _ w _ _)) (opLoadRow (cs := d.dig.cells) rfl (hB.range (i := 0) (m := 32) rfl (by simp [cl_])) row37 (by simp [cl_])) (Tk.cons (p := (_, fun w => OpVal _ _ _ w _ _)) (opLoadOne (v := (.int .i64 d.seq)) rfl (hB.cell (i := 0) rfl (by simp [cl_])) one3) (Tk.cons (p := (_, fun w => OpVal _ _ _ w _ _)) (opLoadOne (v := (.int .i64 d.view)) rfl (hB.cell (i := 0) rfl (by simp [cl_])) one3) (Tk.cons (p := (_, fun w => OpVal _ _ _ w _ _)) (opLoadOne (v := (.int .i64 d.node)) rfl (hB.cell (i := 0) rfl (by simp [cl_])) one3) (Tk.cons (p := (_, fun w => OpVal _ _ _ w _ _)) (opLoadOne (v := (.pointer (some ⟨bm, 0, none⟩))) rfl (hB.cell (i := 1) rfl rfl) one30) (Tk.nil _)))))) ?_
    refine wdAll [21] (by kernel_rfl) rfl ⟨wd1 rfl ?_, trivial⟩
    intro hGd
    replace hC := hC.permH (List.perm_append_comm_assoc O63 Om [])
    replace hB := hB.permH (List.perm_append_comm_assoc O63 Om [])
    refine wlCallC (O := Om) (B := (O63 ++ [])) hC hB rfl co37 rfl rfl (rcommit_ret _ _ hC.holds bm Om m hC.chunkHeld hC.chunkNd hN8.rfo d.node d.view d.seq d.dig hdo.1) ?_; rintro v66 G O67 w hg hC hB ⟨hs68, rfl⟩
    replace hs64 := hs64.mono hg
    replace hsil := hsil.mono hg
    obtain ⟨v69, lb70, so71, cp72, lc73, R74, H75, hN76⟩ := hs68.names
    have hn77 := hN76.n
    obtain ⟨A78, cap79, rfl⟩ := hn77.form
    refine wdNext hGd rfl (kpDrop rfl (kpDrop rfl (kpDrop rfl (kpDrop rfl (kpDrop rfl kpNil))))) (Tk.nil _) ?_
    refine D_ 22 rfl rfl (fun _ => opEql rfl rfl) <| D_ 23 rfl rfl (fun _ => opAssign rfl) <| wdDone (by kernel_rfl) <| wcOf <| wcRet ?_
    replace hC := hC.permH (List.perm_append_comm_assoc O67 O63 [])
    replace hB := hB.permH (List.perm_append_comm_assoc O67 O63 [])
    exact r1_ hQ rfl rfl (endT hC (O63 ++ O67) ⟨[], List.Perm.of_eq (by simp)⟩ ⟨O63, O67, rfl, (by have e_ : (stepS s d).1 = (hearI false s d.node d.view d.seq d.dig true).1 := (by simp only [stepS, stepR, kdI, h22, h23, h24, ta_]); rw [e_]; exact hs64), (by have e_ : (stepR m d).1 = (comR m d.node d.view d.seq d.dig).1 := (by simp only [stepS, stepR, kdI, h22, h23, h24, ta_]); rw [e_]; exact hN76.rfo), (congrArg Value.bool (by simp only [stepS, stepR, kdI, h22, h23, h24, ta_]))⟩)
  ·
   refine wcCondT rfl <| wcSeq ?_
   refine wcDrawS 24 [0, 1, 0, 4, 0, 16, 0, 64, 0, 256, 1023, 0, 2048, 0, 8192, 0, 32768, 0, 131072, 0, 524288, 2097151, 4194303, 8388607] fmix (by kernel_rfl) (by kernel_rfl) rfl hC hB ?_; intro w hC hB
   refine D_ 0 rfl rfl (fun _ => (opFieldAddr rfl fo35_0)) <| E_ 1 rfl rfl (opLoadOne (v := (.pointer (some ⟨bs, 0, none⟩))) rfl (hB.cell (i := 1) rfl rfl) one26) <| D_ 2 rfl rfl (fun _ => (opFieldAddr rfl fo40_1)) <| E_ 3 rfl rfl (opLoadOne (v := (.int .i64 d.node)) rfl (hB.cell (i := 0) rfl (by simp [cl_])) one3) <| D_ 4 rfl rfl (fun _ => (opFieldAddr rfl fo40_2)) <| E_ 5 rfl rfl (opLoadOne (v := (.int .i64 d.view)) rfl (hB.cell (i := 0) rfl (by simp [cl_])) one3) <| D_ 6 rfl rfl (fun _ => (opFieldAddr rfl fo40_3)) <| E_ 7 rfl rfl (opLoadOne (v := (.int .i64 d.seq)) rfl (hB.cell (i := 0) rfl (by simp [cl_])) one3) <| D_ 8 rfl rfl (fun _ => (opFieldAddr rfl fo40_4)) <| E_ 9 rfl rfl (opLoadRow (cs := d.dig.cells) rfl (hB.range (i := 0) (m := 32) rfl (by simp [cl_])) row37 (by simp [cl_])) <| D_ 11 rfl rfl (fun _ => (opFieldAddr rfl fo35_1)) <| E_ 12 rfl rfl (opLoadOne (v := (.pointer (some ⟨bm, 0, none⟩))) rfl (hB.cell (i := 1) rfl rfl) one30) <| D_ 13 rfl rfl (fun _ => (opFieldAddr rfl fo40_1)) <| E_ 14 rfl rfl (opLoadOne (v := (.int .i64 d.node)) rfl (hB.cell (i := 0) rfl (by simp [cl_])) one3) <| D_ 15 rfl rfl (fun _ => (opFieldAddr rfl fo40_2)) <| E_ 16 rfl rfl (opLoadOne (v := (.int .i64 d.view)) rfl (hB.cell (i := 0) rfl (by simp [cl_])) one3) <| D_ 17 rfl rfl (fun _ => (opFieldAddr rfl fo40_3)) <| E_ 18 rfl rfl (opLoadOne (v := (.int .i64 d.seq)) rfl (hB.cell (i := 0) rfl (by simp [cl_])) one3) <| D_ 19 rfl rfl (fun _ => (opFieldAddr rfl fo40_4)) <| E_ 20 rfl rfl (opLoadRow (cs := d.dig.cells) rfl (hB.range (i := 0) (m := 32) rfl (by simp [cl_])) row37 (by simp [cl_])) ?_
   refine wdAll [10] (by kernel_rfl) rfl ⟨wd1 rfl ?_, trivial⟩
   intro hGd
   refine wlCallC (O := Os) (B := (Om ++ [])) hC hB rfl co14 rfl rfl (prepare_ret _ _ hC.holds bs Os s hC.chunkHeld hC.chunkNd hs d.node d.view d.seq d.dig hsil) ?_; rintro v80 G O81 w hg hC hB ⟨hs82, rfl⟩
   replace hN8 := hN8.mono hg
   replace hsil := hsil.mono hg
   have hok83 : SlOk ((prepI s d.node d.view d.seq d.dig).1) := (SlOk.prep hok)
   refine wdNext hGd rfl (kpKeep rfl (kpKeep rfl (kpKeep rfl (kpKeep rfl (kpKeep rfl (kpDrop rfl (kpDrop rfl (kpDrop rfl (kpDrop rfl (kpDrop rfl kpNil)))))))))) (Tk.cons (p := (_, fun w => OpVal _ _ _ w _ _)) (opLoadRow (cs := d.dig.cells) rfl (hB.range (i := 0) (m := 32) rfl (by simp [cl_])) row37 (by simp [cl_])) (Tk.cons (p := (_, fun w => OpVal _ _ _ w _ _)) (opLoadOne (v := (.int .i64 d.seq)) rfl (hB.cell (i := 0) rfl (by simp [cl_])) one3) (Tk.cons (p := (_, fun w => OpVal _ _ _ w _ _)) (opLoadOne (v := (.int .i64 d.view)) rfl (hB.cell (i := 0) rfl (by simp [cl_])) one3) (Tk.cons (p := (_, fun w => OpVal _ _ _ w _ _)) (opLoadOne (v := (.int .i64 d.node)) rfl (hB.cell (i := 0) rfl (by simp [cl_])) one3) (Tk.cons (p := (_, fun w => OpVal _ _ _ w _ _)) (opLoadOne (v := (.pointer (some ⟨bm, 0, none⟩))) rfl (hB.cell (i := 1) rfl rfl) one30) (Tk.nil _)))))) ?_
   refine wdAll [21] (by kernel_rfl) rfl ⟨wd1 rfl ?_, trivial⟩
   intro hGd
   replace hC := hC.permH (List.perm_append_comm_assoc O81 Om [])
   replace hB := hB.permH (List.perm_append_comm_assoc O81 Om [])
   refine wlCallC (O := Om) (B := (O81 ++ [])) hC hB rfl co36 rfl rfl (rprepare_ret _ _ hC.holds bm Om m hC.chunkHeld hC.chunkNd hN8.rfo d.node d.view d.seq d.dig hdo.1) ?_; rintro v84 G O85 w hg hC hB ⟨hs86, rfl⟩
   replace hs82 := hs82.mono hg
   replace hsil := hsil.mono hg
   obtain ⟨v87, lb88, so89, cp90, lc91, R92, H93, hN94⟩ := hs86.names
   have hn95 := hN94.n
   obtain ⟨A96, cap97, rfl⟩ := hn95.form
   refine wdNext hGd rfl (kpDrop rfl (kpDrop rfl (kpDrop rfl (kpDrop rfl (kpDrop rfl kpNil))))) (Tk.nil _) ?_
   refine D_ 22 rfl rfl (fun _ => opEql rfl rfl) <| D_ 23 rfl rfl (fun _ => opAssign rfl) <| wdDone (by kernel_rfl) <| wcOf <| wcRet ?_
   replace hC := hC.permH (List.perm_append_comm_assoc O85 O81 [])
   replace hB := hB.permH (List.perm_append_comm_assoc O85 O81 [])
   exact r1_ hQ rfl rfl (endT hC (O81 ++ O85) ⟨[], List.Perm.of_eq (by simp)⟩ ⟨O81, O85, rfl, (by have e_ : (stepS s d).1 = (prepI s d.node d.view d.seq d.dig).1 := (by simp only [stepS, stepR, kdI, h22, h23, ta_]); rw [e_]; exact hs82), (by have e_ : (stepR m d).1 = (preR m d.node d.view d.seq d.dig).1 := (by simp only [stepS, stepR, kdI, h22, h23, ta_]); rw [e_]; exact hN94.rfo), (congrArg Value.bool (by simp only [stepS, stepR, kdI, h22, h23, ta_]))⟩)
 ·
  refine wcCondT rfl <| wcSeq ?_
  refine wcDrawS 20 [0, 1, 0, 4, 0, 16, 0, 64, 255, 0, 512, 0, 2048, 0, 8192, 0, 32768, 131071, 262143, 524287] fmix (by kernel_rfl) (by kernel_rfl) rfl hC hB ?_; intro w hC hB
  refine D_ 0 rfl rfl (fun _ => (opFieldAddr rfl fo35_0)) <| E_ 1 rfl rfl (opLoadOne (v := (.pointer (some ⟨bs, 0, none⟩))) rfl (hB.cell (i := 1) rfl rfl) one26) <| D_ 2 rfl rfl (fun _ => (opFieldAddr rfl fo40_2)) <| E_ 3 rfl rfl (opLoadOne (v := (.int .i64 d.view)) rfl (hB.cell (i := 0) rfl (by simp [cl_])) one3) <| D_ 4 rfl rfl (fun _ => (opFieldAddr rfl fo40_3)) <| E_ 5 rfl rfl (opLoadOne (v := (.int .i64 d.seq)) rfl (hB.cell (i := 0) rfl (by simp [cl_])) one3) <| D_ 6 rfl rfl (fun _ => (opFieldAddr rfl fo40_4)) <| E_ 7 rfl rfl (opLoadRow (cs := d.dig.cells) rfl (hB.range (i := 0) (m := 32) rfl (by simp [cl_])) row37 (by simp [cl_])) <| D_ 9 rfl rfl (fun _ => (opFieldAddr rfl fo35_1)) <| E_ 10 rfl rfl (opLoadOne (v := (.pointer (some ⟨bm, 0, none⟩))) rfl (hB.cell (i := 1) rfl rfl) one30) <| D_ 11 rfl rfl (fun _ => (opFieldAddr rfl fo40_2)) <| E_ 12 rfl rfl (opLoadOne (v := (.int .i64 d.view)) rfl (hB.cell (i := 0) rfl (by simp [cl_])) one3) <| D_ 13 rfl rfl (fun _ => (opFieldAddr rfl fo40_3)) <| E_ 14 rfl rfl (opLoadOne (v := (.int .i64 d.seq)) rfl (hB.cell (i := 0) rfl (by simp [cl_])) one3) <| D_ 15 rfl rfl (fun _ => (opFieldAddr rfl fo40_4)) <| E_ 16 rfl rfl (opLoadRow (cs := d.dig.cells) rfl (hB.range (i := 0) (m := 32) rfl (by simp [cl_])) row37 (by simp [cl_])) ?_
  refine wdAll [8] (by kernel_rfl) rfl ⟨wd1 rfl ?_, trivial⟩
  intro hGd
  refine wlCallC (O := Os) (B := (Om ++ [])) hC hB rfl co13 rfl rfl (propose_ret _ _ hC.holds bs Os s hC.chunkHeld hC.chunkNd hs d.view d.seq d.dig hsil hok) ?_; rintro v98 G O99 w hg hC hB ⟨hs100, rfl⟩
  replace hN8 := hN8.mono hg
  have hok101 : SlOk ((propI s d.view d.seq d.dig).1) := (SlOk.prop hok)
  refine wdNext hGd rfl (kpKeep rfl (kpKeep rfl (kpKeep rfl (kpKeep rfl (kpDrop rfl (kpDrop rfl (kpDrop rfl (kpDrop rfl kpNil)))))))) (Tk.cons (p := (_, fun w => OpVal _ _ _ w _ _)) (opLoadRow (cs := d.dig.cells) rfl (hB.range (i := 0) (m := 32) rfl (by simp [cl_])) row37 (by simp [cl_])) (Tk.cons (p := (_, fun w => OpVal _ _ _ w _ _)) (opLoadOne (v := (.int .i64 d.seq)) rfl (hB.cell (i := 0) rfl (by simp [cl_])) one3) (Tk.cons (p := (_, fun w => OpVal _ _ _ w _ _)) (opLoadOne (v := (.int .i64 d.view)) rfl (hB.cell (i := 0) rfl (by simp [cl_])) one3) (Tk.cons (p := (_, fun w => OpVal _ _ _ w _ _)) (opLoadOne (v := (.pointer (some ⟨bm, 0, none⟩))) rfl (hB.cell (i := 1) rfl rfl) one30) (Tk.nil _))))) ?_
  refine wdAll [17] (by kernel_rfl) rfl ⟨wd1 rfl ?_, trivial⟩
  intro hGd
  replace hC := hC.permH (List.perm_append_comm_assoc O99 Om [])
  replace hB := hB.permH (List.perm_append_comm_assoc O99 Om [])
  refine wlCallC (O := Om) (B := (O99 ++ [])) hC hB rfl co35 rfl rfl (rpropose_ret _ _ hC.holds bm Om m hC.chunkHeld hC.chunkNd hN8.rfo d.view d.seq d.dig hdo.1) ?_; rintro v102 G O103 w hg hC hB ⟨hs104, rfl⟩
  replace hs100 := hs100.mono hg
  obtain ⟨v105, lb106, so107, cp108, lc109, R110, H111, hN112⟩ := hs104.names
  have hn113 := hN112.n
  obtain ⟨A114, cap115, rfl⟩ := hn113.form
  refine wdNext hGd rfl (kpDrop rfl (kpDrop rfl (kpDrop rfl (kpDrop rfl kpNil)))) (Tk.nil _) ?_
  refine D_ 18 rfl rfl (fun _ => opEql rfl rfl) <| D_ 19 rfl rfl (fun _ => opAssign rfl) <| wdDone (by kernel_rfl) <| wcOf <| wcRet ?_
  replace hC := hC.permH (List.perm_append_comm_assoc O103 O99 [])
  replace hB := hB.permH (List.perm_append_comm_assoc O103 O99 [])
  exact r1_ hQ rfl rfl (endT hC (O99 ++ O103) ⟨[], List.Perm.of_eq (by simp)⟩ ⟨O99, O103, rfl, (by have e_ : (stepS s d).1 = (propI s d.view d.seq d.dig).1 := (by simp only [stepS, stepR, kdI, h22, ta_]); rw [e_]; exact hs100), (by have e_ : (stepR m d).1 = (propR m d.view d.seq d.dig).1 := (by simp only [stepS, stepR, kdI, h22, ta_]); rw [e_]; exact hN112.rfo), (congrArg Value.bool (by simp only [stepS, stepR, kdI, h22, ta_]))⟩)

theorem tells_ret (G0 : Gh) (w0 : World) (hw : Holds G0 w0) (bs : Nat) (Os : List (Nat × Obj)) (s : SlS) (hOs : HasL G0 Os) (hs : SlO G0 bs Os s) (bm : Nat) (Om : List (Nat × Obj)) (m : RfS) (hOm : HasL G0 Om) (hm : RfO G0 bm Om m) (hsil : RowG G0 0 0 silence.cells) (hok : SlOk s) (hT : Tells s m) :
  RetS Tryz.prog 9 #[.agg [.pointer (some ⟨bs, 0, none⟩), .pointer (some ⟨bm, 0, none⟩)].toArray] G0 w0 (.bool true) := by
 have hC := Cx.refl hw
 have hB : Bxs G0 w0 w0.heap.size [] := Bxs.nil _ _ _
 obtain ⟨v1, l2, om3, D4, H5, e6, hn7, hM8, hH9⟩ := id hs
 obtain ⟨A14, cap15, rfl⟩ := hn7.form
 have hb10 : HasO G0 bs (.cells [(.int .i64 s.crew.faults), (.slice A14 s.crew.nodes.length cap15), (.int .i64 s.low), (.map (some l2))].toArray 56 (0, 0)) := hOs (bs, (.cells [(.int .i64 s.crew.faults), (.slice A14 s.crew.nodes.length cap15), (.int .i64 s.low), (.map (some l2))].toArray 56 (0, 0))) (by rw [e6]; simp)
 have hl11 : HasO G0 l2 om3 := hOs (l2, om3) (by rw [e6]; simp)
 have hL12 : HasL G0 H5 := fun x hx => hOs x (by rw [e6]; simp [hx])
 have hF13 := hb10.row
 obtain ⟨OKm, v17, v18, hb19, hn20, hl21⟩ := hm.look hOm
 obtain ⟨A23, cap24, rfl⟩ := hn20.form
 obtain ⟨A25, cap26, rfl⟩ := hl21.form
 have hF22 := hb19.row
 refine callsOf Tryz.func9 rfl _ Tryz.ntmps9 rfl _ (argsCons argsNil (t := 0) rfl) ?_; intro Q0 hQ
 refine wcSeq <| wcRegion ?_
 refine wlBox (cs := [(.pointer (some ⟨bs, 0, none⟩)), (.pointer (some ⟨bm, 0, none⟩))]) hC hB rfl rfl rfl ?_; intro b27 w hk hC hB
 refine A_ rfl ?_
 refine wlThen (wcSeq (wcSeq ?_))
 refine wcDrawS 7 [0, 1, 3, 0, 8, 31, 63] fmix (by kernel_rfl) (by kernel_rfl) rfl hC hB ?_; intro w hC hB
 refine D_ 0 rfl rfl (fun _ => (opFieldAddr rfl fo35_0)) <| E_ 1 rfl rfl (opLoadOne (v := (.pointer (some ⟨bs, 0, none⟩))) rfl (hB.cell (i := 0) rfl rfl) one26) <| D_ 3 rfl rfl (fun _ => (opFieldAddr rfl fo35_1)) <| E_ 4 rfl rfl (opLoadOne (v := (.pointer (some ⟨bm, 0, none⟩))) rfl (hB.cell (i := 0) rfl rfl) one30) ?_
 refine wdAll [2] (by kernel_rfl) rfl ⟨wd1 rfl ?_, trivial⟩
 intro hGd
 refine wlCallS hC hB rfl co11 rfl rfl (lowW_ret _ _ hC.holds bs Os s hOs hs) ?_; intro w hk hC hB
 refine wdNext hGd rfl (kpKeep rfl (kpDrop rfl kpNil)) (Tk.cons (p := (_, fun w => OpVal _ _ _ w _ _)) (opLoadOne (v := (.pointer (some ⟨bm, 0, none⟩))) rfl (hB.cell (i := 0) rfl rfl) one30) (Tk.nil _)) ?_
 refine wdAll [5] (by kernel_rfl) rfl ⟨wd1 rfl ?_, trivial⟩
 intro hGd
 refine wlCallS hC hB rfl co40 rfl rfl (rlow_ret _ _ hC.holds bm Om m hOm hm) ?_; intro w hk hC hB
 refine wdNext hGd rfl (kpDrop rfl kpNil) (Tk.nil _) ?_
 refine D_ 6 rfl rfl (fun _ => opNeq rfl rfl) <| wdDone (by kernel_rfl) <| wcOf ?_
 cases h28 : s.low != m.low
 ·
  refine wcCondF rfl <| wcSkip <| wcOf <| wcSeq ?_
  refine wcDrawS 8 [0, 1, 3, 0, 8, 31, 63, 127] fmix (by kernel_rfl) (by kernel_rfl) rfl hC hB ?_; intro w hC hB
  refine D_ 0 rfl rfl (fun _ => (opFieldAddr rfl fo35_0)) <| E_ 1 rfl rfl (opLoadOne (v := (.pointer (some ⟨bs, 0, none⟩))) rfl (hB.cell (i := 0) rfl rfl) one26) <| D_ 3 rfl rfl (fun _ => (opFieldAddr rfl fo35_0)) <| E_ 4 rfl rfl (opLoadOne (v := (.pointer (some ⟨bs, 0, none⟩))) rfl (hB.cell (i := 0) rfl rfl) one26) ?_
  refine wdAll [2] (by kernel_rfl) rfl ⟨wd1 rfl ?_, trivial⟩
  intro hGd
  refine wlCallO (bl := [(b27, 35, [(.pointer (some ⟨bs, 0, none⟩)), (.pointer (some ⟨bm, 0, none⟩))])]) (r := []) hC hB rfl co18 rfl rfl (p_ret _ _ hC.holds bs Os s hOs hs hsil hok.low) ?_; rintro v33 G o31 w hk hC hB ⟨A29, cap30, rfl, hO32⟩
  replace hn7 := hn7.mono hk.gle; replace hOs := hOs.mono hk.gle; replace hs := hs.mono hk.gle; replace hM8 := hM8.mono hk.gle; replace hH9 := hH9.mono hk.gle; replace hb10 := hb10.mono hk.gle; replace hl11 := hl11.mono hk.gle; replace hL12 := hL12.mono hk.gle; replace hn20 := hn20.mono hk.gle; replace hl21 := hl21.mono hk.gle; replace hOm := hOm.mono hk.gle; replace hm := hm.mono hk.gle
  replace hF13 := hF13.mono hk.gle
  replace hF22 := hF22.mono hk.gle
  replace hsil := hsil.mono hk.gle
  refine wdNext hGd rfl (kpKeep rfl (kpDrop rfl kpNil)) (Tk.cons (p := (_, fun w => OpVal _ _ _ w _ _)) (opLoadOne (v := (.pointer (some ⟨bs, 0, none⟩))) rfl (hB.cell (i := 0) rfl rfl) one26) (Tk.nil _)) ?_
  refine wdAll [5] (by kernel_rfl) rfl ⟨wd1 rfl ?_, trivial⟩
  intro hGd
  refine wlCallO (bl := [(b27, 35, [(.pointer (some ⟨bs, 0, none⟩)), (.pointer (some ⟨bm, 0, none⟩))])]) (r := (Option.toList o31 ++ [])) hC hB rfl co19 rfl rfl (q_ret _ _ hC.holds bs Os s hOs hs hok.low (fun k t h => Nat.le_trans (hok.q4 k t h) (by decide))) ?_; rintro v38 G o36 w hk hC hB ⟨A34, cap35, rfl, hO37⟩
  replace hn7 := hn7.mono hk.gle; replace hOs := hOs.mono hk.gle; replace hs := hs.mono hk.gle; replace hM8 := hM8.mono hk.gle; replace hH9 := hH9.mono hk.gle; replace hb10 := hb10.mono hk.gle; replace hl11 := hl11.mono hk.gle; replace hL12 := hL12.mono hk.gle; replace hn20 := hn20.mono hk.gle; replace hl21 := hl21.mono hk.gle; replace hOm := hOm.mono hk.gle; replace hm := hm.mono hk.gle; replace hO32 := hO32.mono hk.gle
  replace hF13 := hF13.mono hk.gle
  replace hF22 := hF22.mono hk.gle
  replace hsil := hsil.mono hk.gle
  refine wdNext hGd rfl (kpDrop rfl kpNil) (Tk.nil _) ?_
  refine D_ 6 rfl rfl (fun _ => opAssign rfl) <| D_ 7 rfl rfl (fun _ => opAssign rfl) <| wdDone (by kernel_rfl) <| wcOf ?_
  refine wcSeq (wcSeq (wcRegion ?_))
  refine M_ rfl <| V_ (opFieldAddr rfl fo35_1) <| V_ (opLoadOne (v := (.pointer (some ⟨bm, 0, none⟩))) rfl (hB.cell (i := 0) rfl rfl) one30) ?_
  refine wlCallO (bl := [(b27, 35, [(.pointer (some ⟨bs, 0, none⟩)), (.pointer (some ⟨bm, 0, none⟩))])]) (r := (Option.toList o36 ++ (Option.toList o31 ++ []))) hC hB rfl co42 rfl rfl (rp_ret _ _ hC.holds bm Om m hOm hm) ?_; rintro v43 G o41 w hk hC hB ⟨A39, cap40, rfl, hO42⟩
  replace hn7 := hn7.mono hk.gle; replace hOs := hOs.mono hk.gle; replace hs := hs.mono hk.gle; replace hM8 := hM8.mono hk.gle; replace hH9 := hH9.mono hk.gle; replace hb10 := hb10.mono hk.gle; replace hl11 := hl11.mono hk.gle; replace hL12 := hL12.mono hk.gle; replace hn20 := hn20.mono hk.gle; replace hl21 := hl21.mono hk.gle; replace hOm := hOm.mono hk.gle; replace hm := hm.mono hk.gle; replace hO32 := hO32.mono hk.gle; replace hO37 := hO37.mono hk.gle
  replace hF13 := hF13.mono hk.gle
  replace hF22 := hF22.mono hk.gle
  replace hsil := hsil.mono hk.gle
  replace hB := Bxs.swapOwn1 (bl := [(b27, 35, [(.pointer (some ⟨bs, 0, none⟩)), (.pointer (some ⟨bm, 0, none⟩))])]) (X := Option.toList o41) (A := Option.toList o36) (B := Option.toList o31) (r := []) hB
  replace hB := Bxs.swapOwn (bl := [(b27, 35, [(.pointer (some ⟨bs, 0, none⟩)), (.pointer (some ⟨bm, 0, none⟩))])]) (A := Option.toList o41) (B := Option.toList o31) (r := (Option.toList o36 ++ [])) hB
  replace hB := Bxs.swapOwn (bl := [(b27, 35, [(.pointer (some ⟨bs, 0, none⟩)), (.pointer (some ⟨bm, 0, none⟩))])]) (A := Option.toList o31) (B := Option.toList o41) (r := (Option.toList o36 ++ [])) hB
  obtain ⟨G, hg45, hC, hB, hs44⟩ := Ow.freeze' (bl := [(b27, 35, [(.pointer (some ⟨bs, 0, none⟩)), (.pointer (some ⟨bm, 0, none⟩))])]) (r := (Option.toList o31 ++ (Option.toList o36 ++ []))) hO42 hC (Nat.le_refl _) hB (Nat.le_trans (pR_len _ _) (by decide : (8 : Nat) ≤ maxL))
  replace hn7 := hn7.mono hg45; replace hOs := hOs.mono hg45; replace hs := hs.mono hg45; replace hM8 := hM8.mono hg45; replace hH9 := hH9.mono hg45; replace hb10 := hb10.mono hg45; replace hl11 := hl11.mono hg45; replace hL12 := hL12.mono hg45; replace hn20 := hn20.mono hg45; replace hl21 := hl21.mono hg45; replace hOm := hOm.mono hg45; replace hm := hm.mono hg45; replace hO32 := hO32.mono hg45; replace hO37 := hO37.mono hg45
  replace hF13 := hF13.mono hg45
  replace hF22 := hF22.mono hg45
  replace hsil := hsil.mono hg45
  refine wlCallS hC hB rfl co41 rfl rfl (RetS.borrow (bl := [(b27, 35, [(.pointer (some ⟨bs, 0, none⟩)), (.pointer (some ⟨bm, 0, none⟩))])]) (r := (Option.toList o36 ++ [])) hO32 hC hB (Nat.le_trans (pI_len _ _ _) (by decide : (8 : Nat) ≤ maxL)) (fun G_ hglent hhlent hlent => rsame_ret _ _ hhlent _ (((pI s.f (s.low + 1) 8))) hlent _ (((pR m 8))) (hs44.mono hglent))) ?_; intro w hk hC hB
  refine V_ (opNot rfl) <| M_ rfl ?_
  cases h46 : (decide ((((pI s.f (s.low + 1) 8))) = (((pR m 8)))))
  ·
   exact absurd hT.p (of_decide_eq_false h46)
  ·
   refine wlOn rfl rfl <| M_ rfl <| wlOn rfl rfl <| V_ (opFieldAddr rfl fo35_1) <| wlOn rfl rfl <| V_ (opLoadOne (v := (.pointer (some ⟨bm, 0, none⟩))) rfl (hB.cell (i := 0) rfl rfl) one30) <| wlOn rfl rfl ?_
   refine wlCallO (bl := [(b27, 35, [(.pointer (some ⟨bs, 0, none⟩)), (.pointer (some ⟨bm, 0, none⟩))])]) (r := (Option.toList o31 ++ (Option.toList o36 ++ []))) hC hB rfl co43 rfl rfl (rq_ret _ _ hC.holds bm Om m hOm hm) ?_; rintro v51 G o49 w hk hC hB ⟨A47, cap48, rfl, hO50⟩
   replace hn7 := hn7.mono hk.gle; replace hOs := hOs.mono hk.gle; replace hs := hs.mono hk.gle; replace hM8 := hM8.mono hk.gle; replace hH9 := hH9.mono hk.gle; replace hb10 := hb10.mono hk.gle; replace hl11 := hl11.mono hk.gle; replace hL12 := hL12.mono hk.gle; replace hn20 := hn20.mono hk.gle; replace hl21 := hl21.mono hk.gle; replace hOm := hOm.mono hk.gle; replace hm := hm.mono hk.gle; replace hO32 := hO32.mono hk.gle; replace hO37 := hO37.mono hk.gle; replace hs44 := hs44.mono hk.gle
   replace hF13 := hF13.mono hk.gle
   replace hF22 := hF22.mono hk.gle
   replace hsil := hsil.mono hk.gle
   refine wlOn rfl rfl ?_
   replace hB := Bxs.swapOwn1 (bl := [(b27, 35, [(.pointer (some ⟨bs, 0, none⟩)), (.pointer (some ⟨bm, 0, none⟩))])]) (X := Option.toList o49) (A := Option.toList o31) (B := Option.toList o36) (r := []) hB
   replace hB := Bxs.swapOwn (bl := [(b27, 35, [(.pointer (some ⟨bs, 0, none⟩)), (.pointer (some ⟨bm, 0, none⟩))])]) (A := Option.toList o49) (B := Option.toList o36) (r := (Option.toList o31 ++ [])) hB
   replace hB := Bxs.swapOwn (bl := [(b27, 35, [(.pointer (some ⟨bs, 0, none⟩)), (.pointer (some ⟨bm, 0, none⟩))])]) (A := Option.toList o36) (B := Option.toList o49) (r := (Option.toList o31 ++ [])) hB
   obtain ⟨G, hg53, hC, hB, hs52⟩ := Ow.freeze' (bl := [(b27, 35, [(.pointer (some ⟨bs, 0, none⟩)), (.pointer (some ⟨bm, 0, none⟩))])]) (r := (Option.toList o36 ++ (Option.toList o31 ++ []))) hO50 hC (Nat.le_refl _) hB (Nat.le_trans (qR_len OKm _) (by decide : (32 : Nat) ≤ maxL))
   replace hn7 := hn7.mono hg53; replace hOs := hOs.mono hg53; replace hs := hs.mono hg53; replace hM8 := hM8.mono hg53; replace hH9 := hH9.mono hg53; replace hb10 := hb10.mono hg53; replace hl11 := hl11.mono hg53; replace hL12 := hL12.mono hg53; replace hn20 := hn20.mono hg53; replace hl21 := hl21.mono hg53; replace hOm := hOm.mono hg53; replace hm := hm.mono hg53; replace hO32 := hO32.mono hg53; replace hO37 := hO37.mono hg53; replace hs44 := hs44.mono hg53
   replace hF13 := hF13.mono hg53
   replace hF22 := hF22.mono hg53
   replace hsil := hsil.mono hg53
   refine wlCallS hC hB rfl co41 rfl rfl (RetS.borrow (bl := [(b27, 35, [(.pointer (some ⟨bs, 0, none⟩)), (.pointer (some ⟨bm, 0, none⟩))])]) (r := (Option.toList o31 ++ [])) hO37 hC hB (Nat.le_trans (qI_len4 _ _ hok.q4 _) (by decide : (32 : Nat) ≤ maxL)) (fun G_ hglent hhlent hlent => rsame_ret _ _ hhlent _ (((qI s.f (s.low + 1) 8))) hlent _ (((qR m 8))) (hs52.mono hglent))) ?_; intro w hk hC hB
   refine wlOn rfl rfl <| V_ (opNot rfl) <| V_ (opPickF rfl rfl) <| wlThen ?_
   cases h54 : (decide ((((qI s.f (s.low + 1) 8))) = (((qR m 8)))))
   ·
    exact absurd hT.q (of_decide_eq_false h54)
   ·
    refine wcCondF rfl <| wcSkip <| wcOf ?_
    refine wcSeq (wcSeq (wcRegion ?_))
    refine A_ rfl <| wlThen <| wcBlock ?_
    replace hB := Bxs.swapOwn (bl := [(b27, 35, [(.pointer (some ⟨bs, 0, none⟩)), (.pointer (some ⟨bm, 0, none⟩))])]) (A := Option.toList o36) (B := Option.toList o31) (r := []) hB
    refine WC.sub (wrInd (ι := Nat × (Option Addr) × Nat × (Option Bx) × (List Stand)) (fun i => match i with | (j, plA, plC, plO, pl) => pl.length - j) (fun i G w => match i with | (j, plA, plC, plO, pl) => Cx w0 G0 G w ∧ Bxs G w w0.heap.size ([(b27, 35, [(.pointer (some ⟨bs, 0, none⟩)), (.pointer (some ⟨bm, 0, none⟩))])] ++ (Option.toList plO ++ (Option.toList o36 ++ []))) ∧ Sl G (.slice A14 s.crew.nodes.length cap15) s.crew.nodes ∧ HasL G Os ∧ SlO G bs Os s ∧ MpO kI G om3 D4 ∧ SlH G D4 H5 s.f ∧ HasO G bs (.cells [(.int .i64 s.crew.faults), (.slice A14 s.crew.nodes.length cap15), (.int .i64 s.low), (.map (some l2))].toArray 56 (0, 0)) ∧ HasO G l2 om3 ∧ HasL G H5 ∧ Sl G (.slice A23 m.crew.nodes.length cap24) m.crew.nodes ∧ Sl G (.slice A25 m.l.length cap26) m.l ∧ HasL G Om ∧ RfO G bm Om m ∧ Ow G o36 44 (.slice A34 ((((qI s.f (s.low + 1) 8))).length) cap35) (((qI s.f (s.low + 1) 8))) ∧ Sl G (.slice A39 ((((pR m 8))).length) cap40) (((pR m 8))) ∧ Sl G (.slice A47 ((((qR m 8))).length) cap48) (((qR m 8))) ∧ Ow G plO 44 (.slice plA pl.length plC) pl ∧ RowG G bs 0 [(.int .i64 s.crew.faults), (.slice A14 s.crew.nodes.length cap15), (.int .i64 s.low), (.map (some l2))] ∧ RowG G bm 0 [(.int .i64 m.crew.faults), (.slice A23 m.crew.nodes.length cap24), (.int .i64 m.self), (.int .i64 m.low), (.slice A25 m.l.length cap26)] ∧ RowG G 0 0 silence.cells ∧ pl.length ≤ 8) (fun i => match i with | (j, plA, plC, plO, pl) => ((((Env.nil.put 1 (.pointer (some ⟨b27, 0, none⟩))).put 3 (.slice plA pl.length plC)).put 4 (.slice A34 ((((qI s.f (s.low + 1) 8))).length) cap35)).put 5 (.int .i64 (((j : Nat) : Int))))) ?_ (0, A29, cap30, o31, ((pI s.f (s.low + 1) 8))) _ _ ⟨hC, hB, hn7, hOs, hs, hM8, hH9, hb10, hl11, hL12, hn20, hl21, hOm, hm, hO37, hs44, hs52, hO32, hF13, hF22, hsil, (pI_len _ _ _)⟩) (fun _ ha => ((((ha.start.c ha 1 rfl).c ha 3 rfl).c ha 4 rfl).c ha 5 rfl))
    rintro ⟨j, plA, plC, plO, pl⟩ G w N0 IH0 ⟨hC, hB, hn7, hOs, hs, hM8, hH9, hb10, hl11, hL12, hn20, hl21, hOm, hm, hO37, hs44, hs52, hOpl, hF13, hF22, hsil, hbpl⟩
    refine wcSeq (wcSeq (wcRegion ?_))
    refine M_ rfl <| M_ rfl <| V_ (opLen rfl isl38) <| V_ (opLssN rfl rfl) <| wlThen ?_
    cases h55 : decide (j < pl.length)
    ·
     refine wcCondF rfl <| wcExit <| wcOf ?_
     refine wcSeq (wcSeq (wcRegion ?_))
     refine A_ rfl <| wlThen <| wcBlock ?_
     replace hB := Bxs.swapOwn (bl := [(b27, 35, [(.pointer (some ⟨bs, 0, none⟩)), (.pointer (some ⟨bm, 0, none⟩))])]) (A := Option.toList plO) (B := Option.toList o36) (r := []) hB
     refine WC.sub (wrInd (ι := Nat × (Option Addr) × Nat × (Option Bx) × (List Stand)) (fun i => match i with | (j2, qlA, qlC, qlO, ql) => ql.length - j2) (fun i G w => match i with | (j2, qlA, qlC, qlO, ql) => Cx w0 G0 G w ∧ Bxs G w w0.heap.size ([(b27, 35, [(.pointer (some ⟨bs, 0, none⟩)), (.pointer (some ⟨bm, 0, none⟩))])] ++ (Option.toList qlO ++ (Option.toList plO ++ []))) ∧ Sl G (.slice A14 s.crew.nodes.length cap15) s.crew.nodes ∧ HasL G Os ∧ SlO G bs Os s ∧ MpO kI G om3 D4 ∧ SlH G D4 H5 s.f ∧ HasO G bs (.cells [(.int .i64 s.crew.faults), (.slice A14 s.crew.nodes.length cap15), (.int .i64 s.low), (.map (some l2))].toArray 56 (0, 0)) ∧ HasO G l2 om3 ∧ HasL G H5 ∧ Sl G (.slice A23 m.crew.nodes.length cap24) m.crew.nodes ∧ Sl G (.slice A25 m.l.length cap26) m.l ∧ HasL G Om ∧ RfO G bm Om m ∧ Sl G (.slice A39 ((((pR m 8))).length) cap40) (((pR m 8))) ∧ Sl G (.slice A47 ((((qR m 8))).length) cap48) (((qR m 8))) ∧ Ow G plO 44 (.slice plA pl.length plC) pl ∧ Ow G qlO 44 (.slice qlA ql.length qlC) ql ∧ RowG G bs 0 [(.int .i64 s.crew.faults), (.slice A14 s.crew.nodes.length cap15), (.int .i64 s.low), (.map (some l2))] ∧ RowG G bm 0 [(.int .i64 m.crew.faults), (.slice A23 m.crew.nodes.length cap24), (.int .i64 m.self), (.int .i64 m.low), (.slice A25 m.l.length cap26)] ∧ RowG G 0 0 silence.cells ∧ ql.length ≤ 32) (fun i => match i with | (j2, qlA, qlC, qlO, ql) => (((Env.nil.put 1 (.pointer (some ⟨b27, 0, none⟩))).put 4 (.slice qlA ql.length qlC)).put 6 (.int .i64 (((j2 : Nat) : Int))))) ?_ (0, A34, cap35, o36, ((qI s.f (s.low + 1) 8))) _ _ ⟨hC, hB, hn7, hOs, hs, hM8, hH9, hb10, hl11, hL12, hn20, hl21, hOm, hm, hs44, hs52, hOpl, hO37, hF13, hF22, hsil, (qI_len4 _ _ hok.q4 _)⟩) (fun _ ha => (((ha.start.c ha 1 rfl).c ha 4 rfl).c ha 6 rfl))
     rintro ⟨j2, qlA, qlC, qlO, ql⟩ G w N1 IH1 ⟨hC, hB, hn7, hOs, hs, hM8, hH9, hb10, hl11, hL12, hn20, hl21, hOm, hm, hs44, hs52, hOpl, hOql, hF13, hF22, hsil, hbql⟩
     refine wcSeq (wcSeq (wcRegion ?_))
     refine M_ rfl <| M_ rfl <| V_ (opLen rfl isl38) <| V_ (opLssN rfl rfl) <| wlThen ?_
     cases h56 : decide (j2 < ql.length)
     ·
      refine wcCondF rfl <| wcExit <| wcOf ?_
      refine wcSeq (wcSeq (wcRegion ?_))
      refine A_ rfl <| wlThen <| wcBlock ?_
      refine WC.sub (wrInd (ι := Int) (fun i => (11 - i).toNat) (fun i G w => Cx w0 G0 G w ∧ Bxs G w w0.heap.size ([(b27, 35, [(.pointer (some ⟨bs, 0, none⟩)), (.pointer (some ⟨bm, 0, none⟩))])] ++ (Option.toList qlO ++ (Option.toList plO ++ []))) ∧ Sl G (.slice A14 s.crew.nodes.length cap15) s.crew.nodes ∧ HasL G Os ∧ SlO G bs Os s ∧ MpO kI G om3 D4 ∧ SlH G D4 H5 s.f ∧ HasO G bs (.cells [(.int .i64 s.crew.faults), (.slice A14 s.crew.nodes.length cap15), (.int .i64 s.low), (.map (some l2))].toArray 56 (0, 0)) ∧ HasO G l2 om3 ∧ HasL G H5 ∧ Sl G (.slice A23 m.crew.nodes.length cap24) m.crew.nodes ∧ Sl G (.slice A25 m.l.length cap26) m.l ∧ HasL G Om ∧ RfO G bm Om m ∧ Sl G (.slice A39 ((((pR m 8))).length) cap40) (((pR m 8))) ∧ Sl G (.slice A47 ((((qR m 8))).length) cap48) (((qR m 8))) ∧ Ow G plO 44 (.slice plA pl.length plC) pl ∧ Ow G qlO 44 (.slice qlA ql.length qlC) ql ∧ RowG G bs 0 [(.int .i64 s.crew.faults), (.slice A14 s.crew.nodes.length cap15), (.int .i64 s.low), (.map (some l2))] ∧ RowG G bm 0 [(.int .i64 m.crew.faults), (.slice A23 m.crew.nodes.length cap24), (.int .i64 m.self), (.int .i64 m.low), (.slice A25 m.l.length cap26)] ∧ RowG G 0 0 silence.cells ∧ -1 ≤ i ∧ i ≤ 11) (fun i => ((Env.nil.put 1 (.pointer (some ⟨b27, 0, none⟩))).put 7 (.int .i64 i))) ?_ ((-1)) _ _ ⟨hC, hB, hn7, hOs, hs, hM8, hH9, hb10, hl11, hL12, hn20, hl21, hOm, hm, hs44, hs52, hOpl, hOql, hF13, hF22, hsil, (by decide)⟩) (fun _ ha => ((ha.start.c ha 1 rfl).c ha 7 rfl))
      rintro i G w N2 IH2 ⟨hC, hB, hn7, hOs, hs, hM8, hH9, hb10, hl11, hL12, hn20, hl21, hOm, hm, hs44, hs52, hOpl, hOql, hF13, hF22, hsil, hi1⟩
      refine wcSeq (wcSeq (wcRegion ?_))
      refine M_ rfl <| V_ (opLss rfl rfl) <| wlThen ?_
      cases h57 : decide (i < 11)
      ·
       refine wcCondF rfl <| wcExit <| wcOf <| wcSeq <| wcRegion <| A_ rfl <| wlThen <| wcRet ?_
       exact r1_ hQ rfl rfl (endS hC hw rfl)
      ·
       refine wcCondT rfl <| wcSkip <| wcOf <| wcSeq ?_
       refine wcBlock (wcSeq (wcRegion ?_))
       refine V_ (opFieldAddr rfl fo35_1) <| V_ (opLoadOne (v := (.pointer (some ⟨bm, 0, none⟩))) rfl (hB.cell (i := 0) rfl rfl) one30) ?_
       refine wlCallS hC hB rfl co40 rfl rfl (rlow_ret _ _ hC.holds bm Om m hOm hm) ?_; intro w hk hC hB
       refine M_ rfl <| V_ (opAdd rfl rfl) <| A_ rfl ?_
       refine wlThen (wcSeq (wcRegion ?_))
       refine V_ (opFieldAddr rfl fo35_0) <| V_ (opLoadOne (v := (.pointer (some ⟨bs, 0, none⟩))) rfl (hB.cell (i := 0) rfl rfl) one26) <| M_ rfl ?_
       refine wlCallS hC hB rfl co10 rfl rfl (at_ret _ _ hC.holds bs Os s hOs hs (IntKind.wrap .i64 (m.low + i)) hsil) ?_; intro w hk hC hB
       refine M_ rfl <| V_ (opExtract rfl rfl) <| V_ (opExtract rfl rfl) ?_
       refine wlAlloc hC hB zero44 rfl ?_; intro b58 w hk hC hB
       refine wlStore 0 (vs := (((atI s (IntKind.wrap .i64 (m.low + i))).1)).cells) (cs := ((.int .i64 0) :: (Dig.zero.cells ++ ((.int .i64 0) :: [])))) (cs' := (((atI s (IntKind.wrap .i64 (m.low + i))).1)).cells) hC hB rfl rfl rfl sz44 rfl (by simp [cl_]) (by simp [cl_, Value.oneCell']) (by simp [cl_]) (by simp [cl_]) rfl ?_; intro w hC hB
       refine A_ rfl ?_
       refine wlThen (wcSeq (wcRegion ?_))
       refine V_ (opFieldAddr rfl fo35_1) <| V_ (opLoadOne (v := (.pointer (some ⟨bm, 0, none⟩))) rfl (hB.cell (i := 1) rfl rfl) one30) <| M_ rfl ?_
       refine wlCallS hC hB rfl co44 rfl rfl (rat_ret _ _ hC.holds bm Om m hOm hm (IntKind.wrap .i64 (m.low + i)) (I6_wrap _)) ?_; intro w hk hC hB
       refine M_ rfl <| V_ (opExtract rfl rfl) <| V_ (opExtract rfl rfl) ?_
       refine wlAlloc hC hB zero44 rfl ?_; intro b59 w hk hC hB
       refine wlStore 0 (vs := (((atR m (IntKind.wrap .i64 (m.low + i))).1)).cells) (cs := ((.int .i64 0) :: (Dig.zero.cells ++ ((.int .i64 0) :: [])))) (cs' := (((atR m (IntKind.wrap .i64 (m.low + i))).1)).cells) hC hB rfl rfl rfl sz44 rfl (by simp [cl_]) (by simp [cl_, Value.oneCell']) (by simp [cl_]) (by simp [cl_]) rfl ?_; intro w hC hB
       refine A_ rfl <| wlThen <| wcSeq ?_
       refine wcDrawS 30 [0, 0, 3, 7, 15, 15, 63, 127, 255, 511, 1023, 511, 4095, 511, 8703, 511, 65535, 131071, 262143, 524287, 1048575, 2097151, 1048575, 8388607, 1048575, 17825791, 1048575, 134217727, 268435455, 536870911] fmix (by kernel_rfl) (by kernel_rfl) rfl hC hB ?_; intro w hC hB
       refine E_ 0 rfl rfl (opLoadRow (cs := (((atI s (IntKind.wrap .i64 (m.low + i))).1)).cells) rfl (hB.range (i := 1) (m := 34) rfl (by simp [cl_])) row44 (by simp [cl_])) <| E_ 1 rfl rfl (opLoadRow (cs := (((atR m (IntKind.wrap .i64 (m.low + i))).1)).cells) rfl (hB.range (i := 0) (m := 34) rfl (by simp [cl_])) row44 (by simp [cl_])) <| D_ 2 rfl rfl (fun _ => (opNeRow (eq44 _ (((atI s (IntKind.wrap .i64 (m.low + i))).1)) (((atR m (IntKind.wrap .i64 (m.low + i))).1))) eg44 rfl rfl)) <| D_ 3 rfl rfl (fun _ => opMove rfl) ?_
       cases h60 : decide (((atI s (IntKind.wrap .i64 (m.low + i))).1) = ((atR m (IntKind.wrap .i64 (m.low + i))).1))
       ·
        exact absurd (by rw [hT.at_ (IntKind.wrap .i64 (m.low + i)) (I6_wrap _)]) (of_decide_eq_false h60)
       ·
        refine DG_ 4 rfl rfl rfl rfl (fun _ => opMove rfl) <| DG_ 5 rfl rfl rfl rfl (fun _ => opMove rfl) <| DG_ 6 rfl rfl rfl rfl (fun _ => (opNeBool ub4 rfl rfl)) <| D_ 7 rfl rfl (fun _ => opPickF rfl rfl) <| D_ 8 rfl rfl (fun _ => opMove rfl) ?_
        cases h61 : (((atI s (IntKind.wrap .i64 (m.low + i))).2)) != (((atR m (IntKind.wrap .i64 (m.low + i))).2))
        ·
         refine DG_ 9 rfl rfl rfl rfl (fun _ => (opFieldAddr rfl fo35_0)) <| EG_ 10 rfl rfl rfl rfl (opLoadOne (v := (.pointer (some ⟨bs, 0, none⟩))) rfl (hB.cell (i := 2) rfl rfl) one26) <| DG_ 11 rfl rfl rfl rfl (fun _ => opMove rfl) <| DG_ 13 rfl rfl rfl rfl (fun _ => (opFieldAddr rfl fo35_1)) <| EG_ 14 rfl rfl rfl rfl (opLoadOne (v := (.pointer (some ⟨bm, 0, none⟩))) rfl (hB.cell (i := 2) rfl rfl) one30) <| DG_ 15 rfl rfl rfl rfl (fun _ => opMove rfl) ?_
         refine wdAll [12] (by kernel_rfl) rfl ⟨wd1 rfl ?_, trivial⟩
         intro hGd
         refine wlOn rfl rfl ?_
         refine wlCallS hC hB rfl co16 rfl rfl (prepared_ret _ _ hC.holds bs Os s hOs hs (IntKind.wrap .i64 (m.low + i)) hsil) ?_; intro w hk hC hB
         refine wdNext hGd rfl (kpKeep rfl (kpDrop rfl (kpDrop rfl (kpDrop rfl kpNil)))) (Tk.cons (p := (_, fun w => OpVal _ _ _ w _ _)) (opLoadOne (v := (.pointer (some ⟨bm, 0, none⟩))) rfl (hB.cell (i := 2) rfl rfl) one30) (Tk.nil _)) ?_
         refine wdAll [16] (by kernel_rfl) rfl ⟨wd1 rfl ?_, trivial⟩
         intro hGd
         refine wlOn rfl rfl ?_
         refine wlCallS hC hB rfl co45 rfl rfl (rPrep_ret _ _ hC.holds bm Om m hOm hm (IntKind.wrap .i64 (m.low + i)) (I6_wrap _)) ?_; intro w hk hC hB
         refine wdNext hGd rfl (kpDrop rfl kpNil) (Tk.nil _) ?_
         refine DG_ 17 rfl rfl rfl rfl (fun _ => (opNeBool ub4 rfl rfl)) <| D_ 18 rfl rfl (fun _ => opPickF rfl rfl) <| D_ 19 rfl rfl (fun _ => opMove rfl) ?_
         cases h62 : (((preparedI s (IntKind.wrap .i64 (m.low + i))))) != (((preparedR m (IntKind.wrap .i64 (m.low + i)))))
         ·
          refine DG_ 20 rfl rfl rfl rfl (fun _ => (opFieldAddr rfl fo35_0)) <| EG_ 21 rfl rfl rfl rfl (opLoadOne (v := (.pointer (some ⟨bs, 0, none⟩))) rfl (hB.cell (i := 2) rfl rfl) one26) <| DG_ 22 rfl rfl rfl rfl (fun _ => opMove rfl) <| DG_ 24 rfl rfl rfl rfl (fun _ => (opFieldAddr rfl fo35_1)) <| EG_ 25 rfl rfl rfl rfl (opLoadOne (v := (.pointer (some ⟨bm, 0, none⟩))) rfl (hB.cell (i := 2) rfl rfl) one30) <| DG_ 26 rfl rfl rfl rfl (fun _ => opMove rfl) ?_
          refine wdAll [23] (by kernel_rfl) rfl ⟨wd1 rfl ?_, trivial⟩
          intro hGd
          refine wlOn rfl rfl ?_
          refine wlCallS hC hB rfl co17 rfl rfl (committed_ret _ _ hC.holds bs Os s hOs hs (IntKind.wrap .i64 (m.low + i)) hsil) ?_; intro w hk hC hB
          refine wdNext hGd rfl (kpKeep rfl (kpDrop rfl kpNil)) (Tk.cons (p := (_, fun w => OpVal _ _ _ w _ _)) (opLoadOne (v := (.pointer (some ⟨bm, 0, none⟩))) rfl (hB.cell (i := 2) rfl rfl) one30) (Tk.nil _)) ?_
          refine wdAll [27] (by kernel_rfl) rfl ⟨wd1 rfl ?_, trivial⟩
          intro hGd
          refine wlOn rfl rfl ?_
          refine wlCallS hC hB rfl co46 rfl rfl (rcomm_ret _ _ hC.holds bm Om m hOm hm (IntKind.wrap .i64 (m.low + i)) (I6_wrap _)) ?_; intro w hk hC hB
          refine wdNext hGd rfl (kpDrop rfl kpNil) (Tk.nil _) ?_
          refine DG_ 28 rfl rfl rfl rfl (fun _ => (opNeBool ub4 rfl rfl)) <| D_ 29 rfl rfl (fun _ => opPickF rfl rfl) <| wdDone (by kernel_rfl) <| wcOf ?_
          cases h63 : (((committedI s (IntKind.wrap .i64 (m.low + i))))) != (((committedR m (IntKind.wrap .i64 (m.low + i)))))
          ·
           refine wcCondF rfl <| wcSkip <| wcOf <| wcRegion <| M_ rfl <| V_ (opAdd rfl rfl) <| A_ rfl <| wlRound ?_
           exact (IH2 (IntKind.wrap .i64 (i + 1)) _ _ ⟨hC, hB.tail.tail, hn7, hOs, hs, hM8, hH9, hb10, hl11, hL12, hn20, hl21, hOm, hm, hs44, hs52, hOpl, hOql, hF13, hF22, hsil, (by have q := of_decide_eq_true h57; rw [IntWalk.i64_in _ (by omega)]; omega)⟩ (by have q := of_decide_eq_true h57; show (11 - IntKind.wrap .i64 (i + 1)).toNat < (11 - i).toNat; rw [IntWalk.i64_in _ (by omega)]; omega)).sub (fun _ ha => ((ha.start.c ha 1 rfl).c ha 7 rfl))
          ·
           exact absurd h63 (by rw [hT.com (IntKind.wrap .i64 (m.low + i)) (I6_wrap _)]; simp)
         ·
          exact absurd h62 (by rw [hT.prep (IntKind.wrap .i64 (m.low + i)) (I6_wrap _)]; simp)
        ·
         exact absurd h61 (by rw [hT.at_ (IntKind.wrap .i64 (m.low + i)) (I6_wrap _)]; simp)
     ·
      refine wcCondT rfl <| wcSkip <| wcOf <| wcSeq <| wcBlock <| wcRegion <| M_ rfl <| M_ rfl ?_
      obtain ⟨x64, hx65⟩ : ∃ y_, ql[j2]? = some y_ := ⟨_, List.getElem?_eq_getElem (of_decide_eq_true h56)⟩
      obtain ⟨g66, so68, cs67, rfl, rfl⟩ := hOql.addr (of_decide_eq_true h56)
      refine V_ (opIndexAddr rfl rfl slo38 (of_decide_eq_true h56)) <| V_ (opFieldAddr rfl fo44_2) ?_
      refine wlStoreOw (α := Stand) (bl := [(b27, 35, [(.pointer (some ⟨bs, 0, none⟩)), (.pointer (some ⟨bm, 0, none⟩))])]) (r := (Option.toList plO ++ [])) (vs := [(.int .i64 ((-1)))]) (off := 33) (y := (Stand.mk x64.seq x64.dig ((-1)))) hC hB hOql hx65 rfl (by show _ = so68 + _ * 34 + 33; omega) rfl sz3 rfl rfl rfl (by decide) (fun row h => by obtain rfl := h; first | rfl | (show _ = _; simp [Stand.cells, List.take_append, List.drop_append])) rfl ?_; intro cs69 w hC hB hO70
      refine wlNil <| wcOf <| wcRegion <| M_ rfl <| V_ (opIncr rfl rfl (by have q := of_decide_eq_true h56; omega)) <| A_ rfl <| wlRound ?_
      exact (IH1 (j2 + 1, (some ⟨g66, so68, none⟩), qlC, (some (g66, 44, cs69)), (List.set ql j2 (Stand.mk x64.seq x64.dig ((-1))))) _ _ ⟨hC, hB, hn7, hOs, hs, hM8, hH9, hb10, hl11, hL12, hn20, hl21, hOm, hm, hs44, hs52, hOpl, (by simpa using hO70), hF13, hF22, hsil, (by simpa using hbql)⟩ (by have q := of_decide_eq_true h56; simp; omega)).sub (fun _ ha => (((ha.start.c ha 1 rfl).cons ha (t := 4) (congrArg (fun n_ => some (Value.slice (some ⟨g66, so68, none⟩) n_ qlC)) (by simp))).c ha 6 rfl))
    ·
     refine wcCondT rfl <| wcSkip <| wcOf <| wcSeq <| wcBlock <| wcRegion <| M_ rfl <| M_ rfl ?_
     obtain ⟨x71, hx72⟩ : ∃ y_, pl[j]? = some y_ := ⟨_, List.getElem?_eq_getElem (of_decide_eq_true h55)⟩
     obtain ⟨g73, so75, cs74, rfl, rfl⟩ := hOpl.addr (of_decide_eq_true h55)
     refine V_ (opIndexAddr rfl rfl slo38 (of_decide_eq_true h55)) <| V_ (opFieldAddr rfl fo44_2) ?_
     refine wlStoreOw (α := Stand) (bl := [(b27, 35, [(.pointer (some ⟨bs, 0, none⟩)), (.pointer (some ⟨bm, 0, none⟩))])]) (r := (Option.toList o36 ++ [])) (vs := [(.int .i64 ((-1)))]) (off := 33) (y := (Stand.mk x71.seq x71.dig ((-1)))) hC hB hOpl hx72 rfl (by show _ = so75 + _ * 34 + 33; omega) rfl sz3 rfl rfl rfl (by decide) (fun row h => by obtain rfl := h; first | rfl | (show _ = _; simp [Stand.cells, List.take_append, List.drop_append])) rfl ?_; intro cs76 w hC hB hO77
     refine wlNil <| wcOf <| wcRegion <| M_ rfl <| V_ (opIncr rfl rfl (by have q := of_decide_eq_true h55; omega)) <| A_ rfl <| wlRound ?_
     exact (IH0 (j + 1, (some ⟨g73, so75, none⟩), plC, (some (g73, 44, cs76)), (List.set pl j (Stand.mk x71.seq x71.dig ((-1))))) _ _ ⟨hC, hB, hn7, hOs, hs, hM8, hH9, hb10, hl11, hL12, hn20, hl21, hOm, hm, hO37, hs44, hs52, (by simpa using hO77), hF13, hF22, hsil, (by simpa using hbpl)⟩ (by have q := of_decide_eq_true h55; simp; omega)).sub (fun _ ha => ((((ha.start.c ha 1 rfl).cons ha (t := 3) (congrArg (fun n_ => some (Value.slice (some ⟨g73, so75, none⟩) n_ plC)) (by simp))).c ha 4 rfl).c ha 5 rfl))
 ·
  exact absurd h28 (by rw [hT.low]; simp)

end Go.Proofs.YtljcgggflgbenaaGreatDoor
