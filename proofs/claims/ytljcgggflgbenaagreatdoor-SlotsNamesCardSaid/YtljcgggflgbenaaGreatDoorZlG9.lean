/- What functions of the slots seat return, part 9. No condition. -/
import Derived.Test.YtljcgggflgbenaaGreatDoorZlG8
import Derived.Test.YtljcgggflgbenaaGreatDoorZlRef3
set_option linter.all false
namespace Go.Proofs.YtljcgggflgbenaaGreatDoor
open Go Go.Gx Go.RowKit
theorem seq_ix {m : RfS} {k : Int} (h : RfOk m) (hk : I6 k) (hi : inR m k = true) : k = m.low + 1 + ((ixR m k : Nat) : Int) := by
  obtain ⟨h1, h2⟩ := inR_iff h hk hi
  unfold ixR; omega
theorem set_get {m : RfS} {i j : Nat} {t u : RSlot} (h : (setL m i t).l[j]? = some u) : (i = j ∧ u = t) ∨ (i ≠ j ∧ m.l[j]? = some u) := by
  have h : (m.l.set i t)[j]? = some u := h
  rw [List.getElem?_set] at h
  split at h
  · rename_i hij
    split at h
    · injection h with h; exact .inl ⟨hij, h.symm⟩
    · cases h
  · rename_i hij; exact .inr ⟨hij, h⟩
theorem clr_q {m : RfS} : ∀ (k i : Nat) (t : RSlot), (clrR m k).l[i]? = some t → i < k → t.q = []
  | 0, _, _, _, hk => by omega
  | k + 1, i, t, h, hk => by
    rcases set_get (m := clrR m k) h with ⟨_, rfl⟩ | ⟨h1, h2⟩
    · rfl
    · exact clr_q k i t h2 (by omega)
theorem slR_q {m : RfS} {i : Nat} (h : ∀ (i : Nat) (t : RSlot), m.l[i]? = some t → t.q = []) : (slR m i).q = [] := by
  unfold slR
  rw [List.getD_eq_getElem?_getD]
  cases hx : m.l[i]? with
  | none => rfl
  | some t => exact h i t hx
theorem rp_q {m : RfS} {l : List Stand} (h : ∀ (i : Nat) (t : RSlot), m.l[i]? = some t → t.q = []) : ∀ (k i : Nat) (t : RSlot), (rpR m l k).l[i]? = some t → t.q = []
  | 0, i, t, ht => h i t ht
  | k + 1, i, t, ht => by
    rcases set_get (m := rpR m l k) ht with ⟨_, rfl⟩ | ⟨h1, h2⟩
    · exact slR_q (rp_q h k)
    · exact rp_q h k i t h2
theorem q4rest {m : RfS} {t : RSlot} {ql : List Stand} {kq : Nat} {a : Stand} {s : Int} (hQ : t.q = (ql.take kq).filter (fun y => decide (y.seq = s))) (ha : ql[kq]? = some a) (hs : a.seq = s) (hc : qRestG m none [] ql = true) : (t.q ++ [a]).length ≤ 4 := by
  have h1 := qRest_cnt s (l := ql) (p := none) (run := []) (by decide) hc
  have h2 : t.q ++ [a] = (ql.take (kq + 1)).filter (fun y => decide (y.seq = s)) := by
    rw [List.take_add_one, ha, List.filter_append, ← hQ]; simp [hs]
  rw [h2]
  have h3 : ((ql.take (kq + 1)).filter (fun y => decide (y.seq = s))).length ≤ (ql.filter (fun y => decide (y.seq = s))).length := by
    conv => rhs; rw [← List.take_append_drop (kq + 1) ql, List.filter_append, List.length_append]
    omega
  simp only [onP] at h1; omega
theorem rq_step {m : RfS} {ql : List Stand} {kq i : Nat} {lo : Int} {a : Stand} {t t1 t2 : RSlot} (hQ : ∀ (i : Nat) (t : RSlot), m.l[i]? = some t → t.q = (ql.take kq).filter (fun y => decide (y.seq = lo + 1 + i))) (ha : ql[kq]? = some a) (hs : a.seq = lo + 1 + i)
    (ht : m.l[i]? = some t) (h2 : t2.q = t.q ++ [a]) : ∀ (j : Nat) (u : RSlot), (setL (setL m i t1) i t2).l[j]? = some u → u.q = (ql.take (kq + 1)).filter (fun y => decide (y.seq = lo + 1 + j)) := by
  intro j u hu
  rw [List.take_add_one, ha, List.filter_append]
  rcases set_get hu with ⟨rfl, rfl⟩ | ⟨h1, h3⟩
  · rw [h2, ← hQ i t ht]; simp [hs]
  · rcases set_get h3 with ⟨h4, _⟩ | ⟨_, h4⟩
    · exact absurd h4 h1
    · rw [← hQ j u h4]
      have : ¬ a.seq = lo + 1 + (j : Int) := by rw [hs]; omega
      simp [this]
theorem both_ {a b : Bool} (h : (a && b) = true) : a = true ∧ b = true := by simpa using h
theorem rq1_sl {m : RfS} {t : RSlot} (a : Stand) (h : m.l[ixR m a.seq]? = some t) : slR (rq1 m a) (ixR m a.seq) = RSlot.mk t.last t.pre t.com t.p (t.q ++ [a]) := by
  unfold rq1; rw [slR_eq h]; exact slR_eq (setL_at h)
theorem clrR_len (m : RfS) : ∀ k, (clrR m k).l.length = m.l.length
  | 0 => rfl
  | k + 1 => by show ((clrR m k).l.set _ _).length = _; rw [List.length_set]; exact clrR_len m k
theorem clr_lt {m : RfS} (ok : RfOk m) {i : Nat} {t : RSlot} (h : (clrR m 8).l[i]? = some t) : i < 8 := by
  have := (List.getElem?_eq_some_iff.1 h).1
  rw [clrR_len, ok.len] at this; exact this
theorem co75 : callOk Tryz.prog 75 = true := by kernel_rfl
theorem co31 : callOk Tryz.prog 31 = true := by kernel_rfl
theorem rrestore_ret (G0 : Gh) (w0 : World) (hw : Holds G0 w0) (bm : Nat) (Om : List (Nat × Obj)) (m : RfS) (hOm : ∀ x ∈ Om, w0.heap[x.1]? = some x.2 ∧ G0 x.1 = none) (hdm : (Om.map (·.1)).Nodup) (hm : RfO G0 bm Om m) (vpl : Value) (pl : List Stand) (hpl : Sl G0 vpl pl) (vql : Value) (ql : List Stand) (hql : Sl G0 vql ql) (hps : ∀ x ∈ pl, I6 x.seq) (hqs : ∀ x ∈ ql, I6 x.seq) :
  RetT Tryz.prog 39 #[.pointer (some ⟨bm, 0, none⟩), vpl, vql] G0 w0 (List.map (·.1) Om) (fun G O v_ => RfO G bm O (restR m pl ql).1 ∧ v_ = .int .i64 (restR m pl ql).2) := by
 have hC := Cx.refl hw
 have hB : Bxs G0 w0 w0.heap.size [] := Bxs.nil _ _ _
 have hC := Cx.reflH Om (List.map (·.1) Om) hw (fun x hx => ⟨(hOm x hx).1, (hOm x hx).2, List.mem_map.2 ⟨x, hx, rfl⟩⟩) hdm
 replace hC : Cx w0 G0 G0 w0 ⟨(List.map (·.1) Om), (Om ++ [])⟩ := by simpa using hC
 have hB : Bxs G0 w0 w0.heap.size [] ⟨(List.map (·.1) Om), (Om ++ [])⟩ := Bxs.nil _ _ _
 have OKm := hm.1
 obtain ⟨v1, lb2, so3, cp4, lc5, R6, H7, hN8⟩ := hm.names
 have hn9 := hN8.n
 obtain ⟨A10, cap11, rfl⟩ := hn9.form
 obtain ⟨A12, cap13, rfl⟩ := hpl.form
 obtain ⟨A14, cap15, rfl⟩ := hql.form
 refine callsOf Tryz.func39 rfl _ Tryz.ntmps39 rfl _ (argsCons (argsCons (argsCons argsNil (t := 0) rfl) (t := 1) rfl) (t := 2) rfl) ?_; intro Q0 hQ
 refine wcSeq <| wcRegion <| A_ rfl ?_
 refine wlThen (wcSeq (wcSeq (wcRegion ?_)))
 refine M_ rfl <| M_ rfl <| M_ rfl ?_
 refine wlCallS hC hB rfl co75 rfl rfl (RetS.lend hC (fun G_ hg_ hh_ hL_ => restores_ret _ _ hh_ bm Om m (fun y hy => hL_ y (List.mem_append_left _ hy)) (hN8.mono hg_).rfo _ pl (hpl.mono hg_) _ ql (hql.mono hg_) hps hqs)) ?_; intro w hk hC hB
 refine V_ (opNot rfl) <| wlThen ?_
 cases h16 : ((pRestG m none pl && qRestG m none [] ql))
 ·
  refine wcCondT rfl <| wcSeq <| wcRegion <| A_ rfl <| wlThen <| wcRet ?_
  exact r1_ hQ rfl rfl (endT hC Om ⟨[], .refl _⟩ ⟨(by have e_ : (restR m pl ql).1 = m := (by have e0 := h16; simp only [restR, e0, ta_]); rw [e_]; exact hN8.rfo), (congrArg (Value.int .i64) (by have e0 := h16; simp only [restR, e0, ta_]))⟩)
 ·
  refine wcCondF rfl <| wcSkip <| wcOf ?_
  refine wcSeq (wcSeq (wcRegion ?_))
  refine A_ rfl <| wlThen <| wcBlock ?_
  refine WC.sub (wrInd (ι := Nat × (List (Nat × Obj)) × RfS) (fun i => match i with | (k, Oa, sa) => 8 - k) (fun i G w => match i with | (k, Oa, sa) => Cx w0 G0 G w ⟨(List.map (·.1) Om), (Oa ++ [])⟩ ∧ Bxs G w w0.heap.size [] ⟨(List.map (·.1) Om), (Oa ++ [])⟩ ∧ Sl G (.slice A10 m.crew.nodes.length cap11) m.crew.nodes ∧ Sl G (.slice A12 pl.length cap13) pl ∧ Sl G (.slice A14 ql.length cap15) ql ∧ RfO G bm Oa sa ∧ k ≤ 8 ∧ sa = clrR m k ∧ (∀ k_ ∈ List.map (fun x_ => x_.1) Om, k_ ∈ List.map (fun x_ => x_.1) Oa)) (fun i => match i with | (k, Oa, sa) => ((((Env.nil.put 0 (.pointer (some ⟨bm, 0, none⟩))).put 1 (.slice A12 pl.length cap13)).put 2 (.slice A14 ql.length cap15)).put 7 (.int .i64 (((k : Nat) : Int))))) ?_ (0, Om, m) _ _ ⟨hC, hB, hn9, hpl, hql, hN8.rfo, (Nat.zero_le _), rfl, (fun _ h_ => h_)⟩) (fun _ ha => ((((ha.start.c ha 0 rfl).c ha 1 rfl).c ha 2 rfl).c ha 7 rfl))
  rintro ⟨k, Oa, sa⟩ G w N0 IH0 ⟨hC, hB, hn9, hpl, hql, hKsa, hk8, hS, hKe⟩
  obtain ⟨v17, lb18, so19, cp20, lc21, R22, H23, hN24⟩ := hKsa.names
  have hn25 := hN24.n
  obtain ⟨A26, cap27, rfl⟩ := hn25.form
  refine wcSeq (wcSeq (wcRegion ?_))
  refine M_ rfl <| V_ (opLssN (b := 8) rfl rfl) <| wlThen ?_
  cases h28 : decide (k < 8)
  ·
   refine wcCondF rfl <| wcExit <| wcOf ?_
   refine wcSeq (wcSeq (wcRegion ?_))
   refine A_ rfl <| wlThen <| wcBlock ?_
   refine WC.sub (wrInd (ι := Nat × (List (Nat × Obj)) × RfS) (fun i => match i with | (kp, Ob, sb) => pl.length - kp) (fun i G w => match i with | (kp, Ob, sb) => Cx w0 G0 G w ⟨(List.map (·.1) Om), (Ob ++ [])⟩ ∧ Bxs G w w0.heap.size [] ⟨(List.map (·.1) Om), (Ob ++ [])⟩ ∧ Sl G (.slice A10 m.crew.nodes.length cap11) m.crew.nodes ∧ Sl G (.slice A12 pl.length cap13) pl ∧ Sl G (.slice A14 ql.length cap15) ql ∧ Sl G (.slice A26 sa.crew.nodes.length cap27) sa.crew.nodes ∧ RfO G bm Ob sb ∧ kp ≤ pl.length ∧ sb = rpR (clrR m 8) pl kp ∧ (∀ k_ ∈ List.map (fun x_ => x_.1) Om, k_ ∈ List.map (fun x_ => x_.1) Ob)) (fun i => match i with | (kp, Ob, sb) => ((((Env.nil.put 0 (.pointer (some ⟨bm, 0, none⟩))).put 1 (.slice A12 pl.length cap13)).put 2 (.slice A14 ql.length cap15)).put 8 (.int .i64 (((kp : Nat) : Int))))) ?_ (0, Oa, sa) _ _ ⟨hC, hB, hn9, hpl, hql, hn25, hN24.rfo, (Nat.zero_le _), (by rw [hS, show k = 8 from by have q := of_decide_eq_false h28; omega]; rfl), hKe⟩) (fun _ ha => ((((ha.start.c ha 0 rfl).c ha 1 rfl).c ha 2 rfl).c ha 8 rfl))
   rintro ⟨kp, Ob, sb⟩ G w N1 IH1 ⟨hC, hB, hn9, hpl, hql, hn25, hKsb, hkp, hS2, hKe2⟩
   obtain ⟨v29, lb30, so31, cp32, lc33, R34, H35, hN36⟩ := hKsb.names
   have hn37 := hN36.n
   obtain ⟨A38, cap39, rfl⟩ := hn37.form
   refine wcSeq (wcSeq (wcRegion ?_))
   refine M_ rfl <| M_ rfl <| V_ (opLen rfl isl38) <| V_ (opLssN rfl rfl) <| wlThen ?_
   cases h40 : decide (kp < pl.length)
   ·
    refine wcCondF rfl <| wcExit <| wcOf ?_
    refine wcSeq (wcSeq (wcRegion ?_))
    refine A_ rfl <| wlThen <| wcBlock ?_
    refine WC.sub (wrInd (ι := Nat × (List (Nat × Obj)) × RfS) (fun i => match i with | (kq, Oc, sc) => ql.length - kq) (fun i G w => match i with | (kq, Oc, sc) => Cx w0 G0 G w ⟨(List.map (·.1) Om), (Oc ++ [])⟩ ∧ Bxs G w w0.heap.size [] ⟨(List.map (·.1) Om), (Oc ++ [])⟩ ∧ Sl G (.slice A10 m.crew.nodes.length cap11) m.crew.nodes ∧ Sl G (.slice A12 pl.length cap13) pl ∧ Sl G (.slice A14 ql.length cap15) ql ∧ Sl G (.slice A26 sa.crew.nodes.length cap27) sa.crew.nodes ∧ Sl G (.slice A38 sb.crew.nodes.length cap39) sb.crew.nodes ∧ RfO G bm Oc sc ∧ kq ≤ ql.length ∧ sc = rqR (rpR (clrR m 8) pl pl.length) ql kq ∧ (∀ k_ ∈ List.map (fun x_ => x_.1) Om, k_ ∈ List.map (fun x_ => x_.1) Oc) ∧ (∀ (i_ : Nat) (t_ : RSlot), sc.l[i_]? = some t_ → t_.q = (ql.take kq).filter (fun y => decide (y.seq = m.low + 1 + (i_ : Int))))) (fun i => match i with | (kq, Oc, sc) => (((Env.nil.put 0 (.pointer (some ⟨bm, 0, none⟩))).put 2 (.slice A14 ql.length cap15)).put 9 (.int .i64 (((kq : Nat) : Int))))) ?_ (0, Ob, sb) _ _ ⟨hC, hB, hn9, hpl, hql, hn25, hn37, hN36.rfo, (Nat.zero_le _), (by rw [hS2, (show kp = pl.length from by have q := of_decide_eq_false h40; omega)]; rfl), hKe2, (fun i_ t_ ht_ => by rw [hS2] at ht_; have hl_ : i_ < 8 := (by rw [← hS2] at ht_; exact hN36.lt ht_); rw [rp_q (fun i t ht => clr_q 8 i t ht (clr_lt OKm ht)) _ _ _ ht_]; rfl)⟩) (fun _ ha => (((ha.start.c ha 0 rfl).c ha 2 rfl).c ha 9 rfl))
    rintro ⟨kq, Oc, sc⟩ G w N2 IH2 ⟨hC, hB, hn9, hpl, hql, hn25, hn37, hKsc, hkq, hS3, hKe3, hQq⟩
    obtain ⟨v41, lb42, so43, cp44, lc45, R46, H47, hN48⟩ := hKsc.names
    have hn49 := hN48.n
    obtain ⟨A50, cap51, rfl⟩ := hn49.form
    refine wcSeq (wcSeq (wcRegion ?_))
    refine M_ rfl <| M_ rfl <| V_ (opLen rfl isl38) <| V_ (opLssN rfl rfl) <| wlThen ?_
    cases h52 : decide (kq < ql.length)
    ·
     refine wcCondF rfl <| wcExit <| wcOf <| wcSeq <| wcRegion <| A_ rfl <| wlThen <| wcRet ?_
     exact r1_ hQ rfl rfl (endT hC Oc ⟨[], .refl _⟩ ⟨(by have e_ : (restR m pl ql).1 = sc := (by have e0 := h16; simp only [restR, e0, hS3, show kq = ql.length from by have q := of_decide_eq_false h52; omega, ta_]); rw [e_]; exact hN48.rfo), (congrArg (Value.int .i64) (by have e0 := h16; simp only [restR, e0, hS3, show kq = ql.length from by have q := of_decide_eq_false h52; omega, ta_]))⟩)
    ·
     refine wcCondT rfl <| wcSkip <| wcOf <| wcSeq <| wcBlock <| wcSeq ?_
     refine wcDrawS 12 [0, 0, 3, 7, 15, 0, 32, 96, 224, 511, 1023, 2047] fmix (by kernel_rfl) (by kernel_rfl) rfl hC hB ?_; intro w hC hB
     refine D_ 0 rfl rfl (fun _ => opMove rfl) <| D_ 1 rfl rfl (fun _ => opMove rfl) ?_
     obtain ⟨x53, hx54⟩ : ∃ y_, ql[kq]? = some y_ := ⟨_, List.getElem?_eq_getElem (of_decide_eq_true h52)⟩
     obtain ⟨b55, o56, row57, hA60, hr58, hi59⟩ := hql.elem hx54; subst hA60
     obtain rfl := hi59
     refine D_ 2 rfl rfl (fun _ => (opIndexAddr rfl rfl slo38 (of_decide_eq_true h52))) <| D_ 3 rfl rfl (fun _ => (opFieldAddr rfl fo44_0)) <| E_ 4 rfl rfl (opLoadOne (v := (.int .i64 x53.seq)) rfl (RowG.cell0 hC.holds hr58 (by simp [cl_])) one3) <| D_ 5 rfl rfl (fun _ => opMove rfl) <| D_ 6 rfl rfl (fun _ => opNilCheck rfl) <| D_ 7 rfl rfl (fun _ => (opFieldAddr rfl fo64_2)) <| E_ 8 rfl rfl (opLoadOne (v := (.int .i64 sc.low)) rfl (hN48.cell (fun x hx => (hC.held x (List.mem_append_left _ hx)).1) (o := 3) rfl) one3) <| D_ 9 rfl rfl (fun _ => opSub rfl rfl) <| D_ 10 rfl rfl (fun _ => (OpVal.cast (v' := .int .i64 (((ixR sc x53.seq) : Nat) : Int)) (opSub rfl rfl) (congrArg (Value.int .i64) (ixR_eq hN48.ok (hqs _ (List.mem_of_getElem? hx54)) ((inR_low (by rw [hS3, rqR_low, rpR_low, clrR_low]) _).trans (qRest_mem (both_ h16).2 _ (List.mem_of_getElem? hx54))))))) <| D_ 11 rfl rfl (fun _ => opAssign rfl) <| wdDone (by kernel_rfl) <| wcOf <| wcSeq ?_
     refine wcDrawS 22 [0, 1, 3, 7, 0, 0, 32, 96, 224, 0, 992, 2016, 4064, 0, 0, 24576, 57344, 122880, 262112, 524287, 1048575, 2097151] fmix (by kernel_rfl) (by kernel_rfl) rfl hC hB ?_; intro w hC hB
     refine D_ 0 rfl rfl (fun _ => opMove rfl) <| D_ 1 rfl rfl (fun _ => opNilCheck rfl) <| D_ 2 rfl rfl (fun _ => (opFieldAddr rfl fo64_3)) <| E_ 3 rfl rfl (opLoadOne (v := (.slice (some ⟨lb42, so43, none⟩) 8 cp44)) rfl (hN48.cell (fun x hx => (hC.held x (List.mem_append_left _ hx)).1) (o := 4) rfl) one62) <| D_ 4 rfl rfl (fun _ => opMove rfl) <| D_ 5 rfl rfl (fun _ => opMove rfl) <| D_ 6 rfl rfl (fun _ => opNilCheck rfl) <| D_ 7 rfl rfl (fun _ => (opFieldAddr rfl fo64_3)) <| E_ 8 rfl rfl (opLoadOne (v := (.slice (some ⟨lb42, so43, none⟩) 8 cp44)) rfl (hN48.cell (fun x hx => (hC.held x (List.mem_append_left _ hx)).1) (o := 4) rfl) one62) <| D_ 9 rfl rfl (fun _ => opMove rfl) ?_
     obtain ⟨x61, hx62⟩ : ∃ y_, sc.l[(ixR sc x53.seq)]? = some y_ := ⟨_, List.getElem?_eq_getElem (ixR_lt hN48.ok (hqs _ (List.mem_of_getElem? hx54)) ((inR_low (by rw [hS3, rqR_low, rpR_low, clrR_low]) _).trans (qRest_mem (both_ h16).2 _ (List.mem_of_getElem? hx54))))⟩
     refine D_ 10 rfl rfl (fun _ => (opIndexAddr rfl rfl slo62 (hN48.lt hx62))) <| D_ 11 rfl rfl (fun _ => (opFieldAddr rfl fo69_4)) ?_
     obtain ⟨pv63, cv64, vq65, hE66⟩ := hN48.row hx62
     refine E_ 12 rfl rfl (opLoadOne (v := (.slice vq65.A vq65.n vq65.cap)) rfl (hE66.qc (fun x hx => (hC.held x (List.mem_append_left _ hx)).1)) one38) <| D_ 13 rfl rfl (fun _ => opMove rfl) <| D_ 14 rfl rfl (fun _ => opMove rfl) <| D_ 15 rfl rfl (fun _ => (opIndexAddr rfl rfl slo38 (of_decide_eq_true h52))) <| E_ 16 rfl rfl (opLoadRow (cs := x53.cells) rfl (RowG.range hC.holds hr58) row44 (by simp [cl_])) ?_
     refine wdAll [17] (by kernel_rfl) rfl ⟨wd1 rfl ?_, trivial⟩
     intro hGd
     refine wlBuildSlice (α := Stand) (ps := [(0, .tmp 98)]) (xs := [x53]) (rows := [x53.cells]) elo38 rfl rfl hC hB rfl rfl rfl ⟨rfl, trivial⟩ rfl ?_; intro b68 G w hk hC hB hs69
     replace hn9 := hn9.mono hk.gle; replace hpl := hpl.mono hk.gle; replace hql := hql.mono hk.gle; replace hn25 := hn25.mono hk.gle; replace hn37 := hn37.mono hk.gle; replace hN48 := hN48.mono hk.gle; replace hr58 := hr58.mono hk.gle; replace hE66 := hE66.mono hk.gle
     refine wdNext hGd rfl (kpDrop rfl (kpKeep rfl (kpKeep rfl (kpKeep rfl kpNil)))) (Tk.cons (p := (_, fun w => OpVal _ _ _ w _ _)) (opLoadOne (v := (.slice vq65.A vq65.n vq65.cap)) rfl (hE66.qc (fun x hx => (hC.held x (List.mem_append_left _ hx)).1)) one38) (Tk.cons (p := (_, fun w => OpVal _ _ _ w _ _)) (opLoadOne (v := (.slice (some ⟨lb42, so43, none⟩) 8 cp44)) rfl (hN48.cell (fun x hx => (hC.held x (List.mem_append_left _ hx)).1) (o := 4) rfl) one62) (Tk.cons (p := (_, fun w => OpVal _ _ _ w _ _)) (opLoadOne (v := (.slice (some ⟨lb42, so43, none⟩) 8 cp44)) rfl (hN48.cell (fun x hx => (hC.held x (List.mem_append_left _ hx)).1) (o := 4) rfl) one62) (Tk.nil _)))) ?_
     refine wdAll [18] (by kernel_rfl) rfl ⟨wd1 rfl ?_, trivial⟩
     intro hGd
     refine wlRfApp hN48 hC hB hx62 hE66 elo38 rfl rfl hs69 (by have q := hN48.ok.q4 _ _ hx62; simp; omega) rfl rfl ?_; intro A70 cap71 O72 H73 w hC hB hN74 hE75 hA76 hK77
     refine wdNext hGd rfl (kpDrop rfl (kpDrop rfl (kpKeep rfl kpNil))) (Tk.cons (p := (_, fun w => OpVal _ _ _ w _ _)) (opLoadOne (v := (.slice (some ⟨lb42, so43, none⟩) 8 cp44)) rfl (hN74.cell (fun x hx => (hC.held x (List.mem_append_left _ hx)).1) (o := 4) rfl) one62) (Tk.nil _)) ?_
     refine D_ 19 rfl rfl (fun _ => (opIndexAddr rfl rfl slo62 (hN74.lt hx62))) <| D_ 20 rfl rfl (fun _ => (opFieldAddr rfl fo69_4)) ?_
     refine wdAll [21] (by kernel_rfl) rfl ⟨wd1 rfl ?_, trivial⟩
     intro hGd
     refine wlRfQA (q := (x61.q ++ [x53])) hN74 hC hB hx62 hA76 (q4rest (hQq _ _ hx62) hx54 (by have q := seq_ix hN48.ok (hqs _ (List.mem_of_getElem? hx54)) ((inR_low (by rw [hS3, rqR_low, rpR_low, clrR_low]) _).trans (qRest_mem (both_ h16).2 _ (List.mem_of_getElem? hx54))); rw [show sc.low = m.low from (by rw [hS3, rqR_low, rpR_low, clrR_low])] at q; exact q) (both_ h16).2) rfl rfl rfl sz38 rfl ?_; intro O78 lc79 R80 w hC hB hN81 hK82
     refine wdNext hGd rfl (kpDrop rfl kpNil) (Tk.nil _) ?_
     refine wdDone (by kernel_rfl) <| wcOf ?_
     refine wcDrawS 19 [0, 1, 3, 7, 0, 0, 0, 96, 224, 480, 0, 0, 3072, 7168, 15360, 32736, 65535, 131071, 262143] fmix (by kernel_rfl) (by kernel_rfl) rfl hC hB ?_; intro w hC hB
     refine D_ 0 rfl rfl (fun _ => opMove rfl) <| D_ 1 rfl rfl (fun _ => opNilCheck rfl) <| D_ 2 rfl rfl (fun _ => (opFieldAddr rfl fo64_3)) <| E_ 3 rfl rfl (opLoadOne (v := (.slice (some ⟨lb42, so43, none⟩) 8 cp44)) rfl (hN81.cell (fun x hx => (hC.held x (List.mem_append_left _ hx)).1) (o := 4) rfl) one62) <| D_ 4 rfl rfl (fun _ => opMove rfl) <| D_ 5 rfl rfl (fun _ => opMove rfl) <| D_ 6 rfl rfl (fun _ => opMove rfl) <| D_ 7 rfl rfl (fun _ => (opIndexAddr rfl rfl slo38 (of_decide_eq_true h52))) <| D_ 8 rfl rfl (fun _ => (opFieldAddr rfl fo44_2)) <| E_ 9 rfl rfl (opLoadOne (v := (.int .i64 x53.view)) rfl (RowG.cell hC.holds hr58 (j := 33) (by simp [cl_])) one3) <| D_ 10 rfl rfl (fun _ => opMove rfl) <| D_ 11 rfl rfl (fun _ => opMove rfl) <| D_ 12 rfl rfl (fun _ => (opIndexAddr rfl rfl slo38 (of_decide_eq_true h52))) <| D_ 13 rfl rfl (fun _ => (opFieldAddr rfl fo44_1)) <| E_ 14 rfl rfl (opLoadRow (cs := x53.dig.cells) rfl (RowG.range hC.holds (hr58.part (i := 1) (m := 32) (by simp [cl_]))) row37 (by simp [cl_])) <| D_ 15 rfl rfl (fun _ => (B_ (ps := [(0, .const (.bool true)), (1, .tmp 112), (2, .tmp 117)]) (cs := ((.bool true) :: ((.int .i64 x53.view) :: (x53.dig.cells ++ [])))) so66 zero66 rfl rfl)) <| D_ 16 rfl rfl (fun _ => (opIndexAddr rfl rfl slo62 (hN81.lt (setL_at hx62)))) <| D_ 17 rfl rfl (fun _ => (opFieldAddr rfl fo69_0)) ?_
     refine wdAll [18] (by kernel_rfl) rfl ⟨wd1 rfl ?_, trivial⟩
     intro hGd
     refine wlRfLast (y := (RVt.mk true x53.view x53.dig)) hN81 hC hB (setL_at hx62) rfl rfl rfl sz66 rfl rfl ?_; intro O83 lc84 R85 w hC hB hN86 hK87
     refine wdNext hGd rfl (kpDrop rfl (kpDrop rfl (kpDrop rfl kpNil))) (Tk.nil _) ?_
     refine wdDone (by kernel_rfl) <| wcOf <| wcRegion <| M_ rfl <| V_ (opIncr rfl rfl (incr_ok (of_decide_eq_true h52) hql.le)) <| A_ rfl <| wlRound ?_
     exact (IH2 (kq + 1, O83, (setL ((setL sc ((ixR sc x53.seq)) (RSlot.mk x61.last x61.pre x61.com x61.p ((x61.q ++ [x53]))))) ((ixR sc x53.seq)) (RSlot.mk ((RVt.mk true x53.view x53.dig)) (((RSlot.mk x61.last x61.pre x61.com x61.p ((x61.q ++ [x53])))).pre) (((RSlot.mk x61.last x61.pre x61.com x61.p ((x61.q ++ [x53])))).com) (((RSlot.mk x61.last x61.pre x61.com x61.p ((x61.q ++ [x53])))).p) (((RSlot.mk x61.last x61.pre x61.com x61.p ((x61.q ++ [x53])))).q)))) _ _ ⟨hC, hB, hn9, hpl, hql, hn25, hn37, hN86.rfo, (of_decide_eq_true h52), (by have e1 := slR_eq hx62; have e2 := rq1_sl x53 hx62; subst hS3; simp only [rqR, rq2, List.getD_eq_getElem?_getD, hx54, Option.getD_some, e1, e2]; simp only [rq1, e1]), (fun k_ hk_ => (hK87 k_ (hK82 k_ (hK77 k_ (hKe3 k_ hk_))))), (rq_step hQq hx54 (by have q := seq_ix hN48.ok (hqs _ (List.mem_of_getElem? hx54)) ((inR_low (by rw [hS3, rqR_low, rpR_low, clrR_low]) _).trans (qRest_mem (both_ h16).2 _ (List.mem_of_getElem? hx54))); rw [show sc.low = m.low from (by rw [hS3, rqR_low, rpR_low, clrR_low])] at q; exact q) hx62 rfl)⟩ (by have := of_decide_eq_true h52; simp; omega)).sub (fun _ ha => (((ha.start.c ha 0 rfl).c ha 2 rfl).c ha 9 rfl))
   ·
    refine wcCondT rfl <| wcSkip <| wcOf <| wcSeq <| wcBlock ?_
    refine wcDrawS 29 [0, 1, 3, 7, 0, 0, 48, 112, 240, 0, 512, 1536, 3584, 8176, 16368, 0, 0, 98304, 229376, 491520, 0, 0, 3145728, 7340032, 15728640, 33521664, 67108863, 134217727, 268435455] fmix (by kernel_rfl) (by kernel_rfl) rfl hC hB ?_; intro w hC hB
    refine D_ 0 rfl rfl (fun _ => opMove rfl) <| D_ 1 rfl rfl (fun _ => opNilCheck rfl) <| D_ 2 rfl rfl (fun _ => (opFieldAddr rfl fo64_3)) <| E_ 3 rfl rfl (opLoadOne (v := (.slice (some ⟨lb30, so31, none⟩) 8 cp32)) rfl (hN36.cell (fun x hx => (hC.held x (List.mem_append_left _ hx)).1) (o := 4) rfl) one62) <| D_ 4 rfl rfl (fun _ => opMove rfl) <| D_ 5 rfl rfl (fun _ => opMove rfl) ?_
    obtain ⟨x88, hx89⟩ : ∃ y_, pl[kp]? = some y_ := ⟨_, List.getElem?_eq_getElem (of_decide_eq_true h40)⟩
    obtain ⟨b90, o91, row92, hA95, hr93, hi94⟩ := hpl.elem hx89; subst hA95
    obtain rfl := hi94
    refine D_ 6 rfl rfl (fun _ => (opIndexAddr rfl rfl slo38 (of_decide_eq_true h40))) <| D_ 7 rfl rfl (fun _ => (opFieldAddr rfl fo44_0)) <| E_ 8 rfl rfl (opLoadOne (v := (.int .i64 x88.seq)) rfl (RowG.cell0 hC.holds hr93 (by simp [cl_])) one3) <| D_ 9 rfl rfl (fun _ => opMove rfl) <| D_ 10 rfl rfl (fun _ => opNilCheck rfl) <| D_ 11 rfl rfl (fun _ => (opFieldAddr rfl fo64_2)) <| E_ 12 rfl rfl (opLoadOne (v := (.int .i64 sb.low)) rfl (hN36.cell (fun x hx => (hC.held x (List.mem_append_left _ hx)).1) (o := 3) rfl) one3) <| D_ 13 rfl rfl (fun _ => opSub rfl rfl) <| D_ 14 rfl rfl (fun _ => (OpVal.cast (v' := .int .i64 (((ixR sb x88.seq) : Nat) : Int)) (opSub rfl rfl) (congrArg (Value.int .i64) (ixR_eq hN36.ok (hps _ (List.mem_of_getElem? hx89)) ((inR_low (by rw [hS2, rpR_low, clrR_low]) _).trans (pRest_mem (both_ h16).1 _ (List.mem_of_getElem? hx89))))))) <| D_ 15 rfl rfl (fun _ => opMove rfl) <| D_ 16 rfl rfl (fun _ => opMove rfl) <| D_ 17 rfl rfl (fun _ => (opIndexAddr rfl rfl slo38 (of_decide_eq_true h40))) <| D_ 18 rfl rfl (fun _ => (opFieldAddr rfl fo44_2)) <| E_ 19 rfl rfl (opLoadOne (v := (.int .i64 x88.view)) rfl (RowG.cell hC.holds hr93 (j := 33) (by simp [cl_])) one3) <| D_ 20 rfl rfl (fun _ => opMove rfl) <| D_ 21 rfl rfl (fun _ => opMove rfl) <| D_ 22 rfl rfl (fun _ => (opIndexAddr rfl rfl slo38 (of_decide_eq_true h40))) <| D_ 23 rfl rfl (fun _ => (opFieldAddr rfl fo44_1)) <| E_ 24 rfl rfl (opLoadRow (cs := x88.dig.cells) rfl (RowG.range hC.holds (hr93.part (i := 1) (m := 32) (by simp [cl_]))) row37 (by simp [cl_])) <| D_ 25 rfl rfl (fun _ => (B_ (ps := [(0, .const (.bool true)), (1, .tmp 56), (2, .tmp 61)]) (cs := ((.bool true) :: ((.int .i64 x88.view) :: (x88.dig.cells ++ [])))) so66 zero66 rfl rfl)) ?_
    obtain ⟨x96, hx97⟩ : ∃ y_, sb.l[(ixR sb x88.seq)]? = some y_ := ⟨_, List.getElem?_eq_getElem (ixR_lt hN36.ok (hps _ (List.mem_of_getElem? hx89)) ((inR_low (by rw [hS2, rpR_low, clrR_low]) _).trans (pRest_mem (both_ h16).1 _ (List.mem_of_getElem? hx89))))⟩
    refine D_ 26 rfl rfl (fun _ => (opIndexAddr rfl rfl slo62 (hN36.lt hx97))) <| D_ 27 rfl rfl (fun _ => (opFieldAddr rfl fo69_3)) ?_
    refine wdAll [28] (by kernel_rfl) rfl ⟨wd1 rfl ?_, trivial⟩
    intro hGd
    refine wlRfP (y := (RVt.mk true x88.view x88.dig)) hN36 hC hB hx97 rfl rfl rfl sz66 rfl rfl ?_; intro O98 lc99 R100 w hC hB hN101 hK102
    refine wdNext hGd rfl (kpDrop rfl (kpDrop rfl (kpDrop rfl (kpDrop rfl (kpDrop rfl kpNil))))) (Tk.nil _) ?_
    refine wdDone (by kernel_rfl) <| wcOf <| wcRegion <| M_ rfl <| V_ (opIncr rfl rfl (incr_ok (of_decide_eq_true h40) hpl.le)) <| A_ rfl <| wlRound ?_
    exact (IH1 (kp + 1, O98, (setL sb ((ixR sb x88.seq)) (RSlot.mk x96.last x96.pre x96.com ((RVt.mk true x88.view x88.dig)) x96.q))) _ _ ⟨hC, hB, hn9, hpl, hql, hn25, hN101.rfo, (of_decide_eq_true h40), (by have e1 := slR_eq hx97; subst hS2; simp only [rpR, List.getD_eq_getElem?_getD, hx89, Option.getD_some, e1]), (fun k_ hk_ => (hK102 k_ (hKe2 k_ hk_)))⟩ (by have := of_decide_eq_true h40; simp; omega)).sub (fun _ ha => ((((ha.start.c ha 0 rfl).c ha 1 rfl).c ha 2 rfl).c ha 8 rfl))
  ·
   refine wcCondT rfl <| wcSkip <| wcOf <| wcSeq <| wcBlock ?_
   refine wcDrawS 12 [0, 1, 3, 7, 0, 0, 32, 96, 224, 480, 1023, 2047] fmix (by kernel_rfl) (by kernel_rfl) rfl hC hB ?_; intro w hC hB
   refine D_ 0 rfl rfl (fun _ => opMove rfl) <| D_ 1 rfl rfl (fun _ => opNilCheck rfl) <| D_ 2 rfl rfl (fun _ => (opFieldAddr rfl fo64_3)) <| E_ 3 rfl rfl (opLoadOne (v := (.slice (some ⟨lb18, so19, none⟩) 8 cp20)) rfl (hN24.cell (fun x hx => (hC.held x (List.mem_append_left _ hx)).1) (o := 4) rfl) one62) <| D_ 4 rfl rfl (fun _ => opMove rfl) <| D_ 5 rfl rfl (fun _ => opMove rfl) <| D_ 6 rfl rfl (fun _ => opNilCheck rfl) <| D_ 7 rfl rfl (fun _ => (opFieldAddr rfl fo64_0)) <| E_ 8 rfl rfl (opLoadRow (cs := [(.int .i64 sa.crew.faults), (.slice A26 sa.crew.nodes.length cap27)]) rfl (hN24.crew (fun x hx => (hC.held x (List.mem_append_left _ hx)).1)) row24 rfl) ?_
   refine wdAll [9] (by kernel_rfl) rfl ⟨wd1 rfl ?_, trivial⟩
   intro hGd
   refine wlCallNew (B := (Oa ++ [])) hC hB rfl co31 rfl rfl (empty_ret _ _ hC.holds _ sa.crew (Crew.mkIs (x := sa.crew) hn25) (new_l7 (by rw [hN24.ok.crew]; rfl))) ?_; rintro v103 G O_ w hg hC hB ⟨xr104, rfl, rfl, hx105⟩
   replace hn9 := hn9.mono hg; replace hpl := hpl.mono hg; replace hql := hql.mono hg; replace hN24 := hN24.mono hg
   refine wdNext hGd rfl (kpDrop rfl (kpKeep rfl kpNil)) (Tk.cons (p := (_, fun w => OpVal _ _ _ w _ _)) (opLoadOne (v := (.slice (some ⟨lb18, so19, none⟩) 8 cp20)) rfl (hN24.cell (fun x hx => (hC.held x (List.mem_append_right _ (List.mem_append_left _ hx))).1) (o := 4) rfl) one62) (Tk.nil _)) ?_
   obtain ⟨x106, hx107⟩ : ∃ y_, sa.l[k]? = some y_ := ⟨_, List.getElem?_eq_getElem (by rw [hN24.ok.len]; exact of_decide_eq_true h28)⟩
   refine D_ 10 rfl rfl (fun _ => (opIndexAddr rfl rfl slo62 (hN24.lt hx107))) ?_
   refine wdAll [11] (by kernel_rfl) rfl ⟨wd1 rfl ?_, trivial⟩
   intro hGd
   refine wlRfRow (xr := xr104) (t' := (emptyR sa.crew.nodes.length)) hN24 hC hB hx107 hx105 (by rw [hN24.ok.pre _ _ hx107]; exact List.length_replicate ..) (by rw [hN24.ok.com _ _ hx107]; exact List.length_replicate ..) (Nat.zero_le _) rfl rfl rfl sz69 rfl ?_; intro O108 lc109 R110 H111 w hC hB hN112 hK113
   refine wdNext hGd rfl (kpDrop rfl kpNil) (Tk.nil _) ?_
   refine wdDone (by kernel_rfl) <| wcOf <| wcRegion <| M_ rfl <| V_ (opIncr rfl rfl (by have q := of_decide_eq_true h28; omega)) <| A_ rfl <| wlRound ?_
   exact (IH0 (k + 1, O108, (setL sa k (emptyR sa.crew.nodes.length))) _ _ ⟨hC, hB, hn9, hpl, hql, hN112.rfo, (of_decide_eq_true h28), (by subst hS; rfl), (fun k_ hk_ => (hK113 k_ (hKe k_ hk_)))⟩ (by have q := of_decide_eq_true h28; show 8 - (k + 1) < 8 - k; omega)).sub (fun _ ha => ((((ha.start.c ha 0 rfl).c ha 1 rfl).c ha 2 rfl).c ha 7 rfl))

end Go.Proofs.YtljcgggflgbenaaGreatDoor
