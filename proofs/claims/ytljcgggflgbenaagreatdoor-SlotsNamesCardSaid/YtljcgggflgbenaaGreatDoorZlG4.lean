/- What functions of the slots seat return, part 4. No condition. -/
import Derived.Test.YtljcgggflgbenaaGreatDoorZlG3
set_option linter.all false
namespace Go.Proofs.YtljcgggflgbenaaGreatDoor
open Go Go.Gx Go.RowKit
def sayI (s : SlS) (f : Int) (wd : Word) : SlS × Int :=
  bif wd.commits then hearI false s (IntKind.wrap .i64 (1 + bringI wd.node (IntKind.wrap .i64 (IntKind.wrap .i64 (3 * f) + 1)))) (bringI wd.view 3) (IntKind.wrap .i64 (1 + bringI wd.seq 8)) (digN (wd.b &&& 3)) true
  else prepI s (IntKind.wrap .i64 (1 + bringI wd.node (IntKind.wrap .i64 (IntKind.wrap .i64 (3 * f) + 1)))) (bringI wd.view 3) (IntKind.wrap .i64 (1 + bringI wd.seq 8)) (digN (wd.b &&& 3))
theorem SlOk.say {s : SlS} {f : Int} {wd : Word} (h : SlOk s) : SlOk (sayI s f wd).1 := by
  unfold sayI; cases wd.commits with
  | true => exact SlOk.hear h
  | false => exact SlOk.prep h
def psN (s : SlS) (v : Int) (l : List UInt8) : Nat → SlS
  | 0 => s
  | i + 1 => (propI (psN s v l i) v (IntKind.wrap .i64 (1 + ((i : Nat) : Int))) (digN (l.getD i 0 &&& 3))).1
theorem SlOk.ps {s : SlS} {v : Int} {l : List UInt8} (h : SlOk s) : ∀ i, SlOk (psN s v l i)
  | 0 => h
  | i + 1 => SlOk.prop (SlOk.ps h i)

theorem setP_q {f : Int → Option SlotS} {a : Stand} {n : Nat} (h : ∀ x u, f x = some u → u.q.length ≤ n) : ∀ x u, setP f a x = some u → u.q.length ≤ n := by
  intro x u hu; unfold setP at hu
  cases hf : f a.seq with
  | none => rw [hf] at hu; exact h x u hu
  | some t => rw [hf] at hu; simp only [] at hu; exact upd_q h (t := SlotS.mk t.last (Wd.mk a.view a.dig) t.pre t.com t.q) (show t.q.length ≤ n from h _ _ hf) x u hu
theorem setP_some {f : Int → Option SlotS} {a : Stand} (x : Int) : (setP f a x).isSome = (f x).isSome := by
  unfold setP
  cases hf : f a.seq with
  | none => rfl
  | some t => exact upd_isSome hf x
theorem setQ_some {f : Int → Option SlotS} {a : Stand} (x : Int) : (setQ f a x).isSome = (f x).isSome := by
  unfold setQ
  cases hf : f a.seq with
  | none => rfl
  | some t => exact upd_isSome hf x
theorem foldP_some : ∀ (l : List Stand) (f : Int → Option SlotS) (x : Int), (l.foldl setP f x).isSome = (f x).isSome
  | [], _, _ => rfl
  | a :: r, f, x => by rw [List.foldl_cons, foldP_some r]; exact setP_some x
theorem foldQ_some : ∀ (l : List Stand) (f : Int → Option SlotS) (x : Int), (l.foldl setQ f x).isSome = (f x).isSome
  | [], _, _ => rfl
  | a :: r, f, x => by rw [List.foldl_cons, foldQ_some r]; exact setQ_some x
theorem foldP_q {n : Nat} : ∀ (l : List Stand) (f : Int → Option SlotS), (∀ x u, f x = some u → u.q.length ≤ n) → ∀ x u, l.foldl setP f x = some u → u.q.length ≤ n
  | [], _, h => h
  | a :: r, f, h => foldP_q r (setP f a) (setP_q h)
theorem foldQ_q : ∀ (l : List Stand) (f : Int → Option SlotS) (c : Int → Nat), (∀ x u, f x = some u → u.q.length ≤ c x) → ∀ x u, l.foldl setQ f x = some u → u.q.length ≤ c x + l.countP (fun a => decide (a.seq = x))
  | [], _, c, h => fun x u hu => by simpa using h x u hu
  | a :: r, f, c, h => by
    intro x u hu
    rw [List.foldl_cons] at hu
    have h2 := foldQ_q r (setQ f a) (fun y => c y + if a.seq = y then 1 else 0) (fun y v hv => by
      unfold setQ at hv
      cases hf : f a.seq with
      | none => rw [hf] at hv; exact Nat.le_trans (h y v hv) (Nat.le_add_right _ _)
      | some t =>
        rw [hf] at hv
        simp only [upd] at hv
        split at hv
        · rename_i e; simp at hv; subst hv; rw [if_pos e]; simp only [List.length_append, List.length_singleton]; have := h _ _ hf; rw [e] at this; omega
        · rename_i e; rw [if_neg e]; exact h y v hv) x u hu
    by_cases hx : a.seq = x
    · rw [List.countP_cons_of_pos (by simpa using hx)]; simp only [if_pos hx] at h2; omega
    · rw [List.countP_cons_of_neg (by simpa using hx)]; simp only [if_neg hx] at h2; omega
theorem qMay_count {f : Int → Option SlotS} : ∀ (l : List Stand) (p : Option Stand) (D : List (Int × Int)) (E : List (Mark × Int)), qMayG f p D E l = true → (∀ x, 0 ≤ (mget D x).getD (0 : Int) ∧ (mget D x).getD (0 : Int) ≤ 4) → ∀ x, (mget D x).getD (0 : Int) + (l.countP (fun a => decide (a.seq = x)) : Int) ≤ 4
  | [], _, D, _, _, h => fun x => by have := h x; simp; omega
  | a :: r, p, D, E, hm, h => by
    intro x
    unfold qMayG at hm
    have ha := h a.seq
    rw [IntWalk.i64_in ((mget D a.seq).getD (0 : Int) + 1) (by omega)] at hm
    cases hc : decide ((4 : Int) < (mget (mput D a.seq ((mget D a.seq).getD (0 : Int) + 1)) a.seq).getD (0 : Int)) with
    | true => rw [hc] at hm; simp at hm
    | false =>
      have hc' := of_decide_eq_false hc
      rw [mget_mput, if_pos rfl, Option.getD_some] at hc'
      have hr := hm
      revert hr
      generalize (_ || _ : Bool) = z
      cases z with
      | true => intro hr; cases hr
      | false =>
        intro hr
        have ih := qMay_count r (some a) _ _ hr (fun y => by
          rw [mget_mput]; split
          · rw [Option.getD_some]; omega
          · exact h y) x
        rw [mget_mput] at ih
        by_cases hx : a.seq = x
        · subst hx; rw [if_pos rfl, Option.getD_some] at ih; rw [List.countP_cons_of_pos (by simp)]; omega
        · rw [if_neg hx] at ih; rw [List.countP_cons_of_neg (by simpa using hx)]; exact ih
theorem SlOk.rest {s : SlS} {pl ql : List Stand} (h : SlOk s) : SlOk (restI s pl ql).1 := by
  unfold restI
  cases hp : pMayG s.f none pl with
  | false => exact h
  | true =>
    cases hq : qMayG s.f none [] [] ql with
    | false => exact h
    | true =>
      refine ⟨h.low, fun k t ht => ?_, fun k => ?_⟩
      · have h1 := foldQ_q ql (pl.foldl setP (f0 s.low)) (fun _ => 0) (foldP_q pl (f0 s.low) (fun x u hu => f0_q hu)) k t ht
        have h2 := qMay_count ql none [] [] hq (fun x => ⟨Int.le_refl _, (by show (0 : Int) ≤ 4; decide)⟩) k
        have h3 : (0 : Int) + (ql.countP (fun a => decide (a.seq = k)) : Int) ≤ 4 := h2
        omega
      · show (ql.foldl setQ (pl.foldl setP (f0 s.low)) k).isSome = _
        rw [foldQ_some, foldP_some, f0_isSome]; rfl
def aw0 : SlS := (newSl (crewI 1) 0)
def aw1 : SlS := (propI aw0 0 3 (((digN ((1 : UInt8)))))).1
def aw2 : SlS := (prepI aw1 2 0 3 (((digN ((1 : UInt8)))))).1
def aw3 : SlS := (prepI aw2 3 0 3 (((digN ((1 : UInt8)))))).1
def aw4 : SlS := (prepI aw3 1 0 3 (((digN ((1 : UInt8)))))).1
def aw5 : SlS := (hearI false aw4 1 0 3 (((digN ((1 : UInt8))))) true).1
def aw6 : SlS := (hearI false aw5 2 0 3 (((digN ((1 : UInt8))))) true).1
def aw7 : SlS := (hearI false aw6 3 0 3 (((digN ((1 : UInt8))))) true).1
def aw8 : SlS := (propI aw7 0 3 (((digN ((2 : UInt8)))))).1
def aw9 : SlS := (propI aw8 0 9 (((digN ((1 : UInt8)))))).1
def aw10 : SlS := (propI aw9 1 3 (((digN ((2 : UInt8)))))).1
def aw11 : SlS := (prepI aw3 1 0 3 (((digN ((1 : UInt8)))))).1
def aw12 : SlS := (hearI false aw11 1 0 3 (((digN ((1 : UInt8))))) true).1
def aw13 : SlS := (hearI false aw12 2 0 3 (((digN ((1 : UInt8))))) true).1
def aw14 : SlS := (hearI false aw13 3 0 3 (((digN ((1 : UInt8))))) true).1
def aw15 : SlS := (propI aw14 0 3 (((digN ((2 : UInt8)))))).1
def aw16 : SlS := (propI aw15 0 9 (((digN ((1 : UInt8)))))).1
def aw17 : SlS := (propI aw16 1 3 (((digN ((2 : UInt8)))))).1
theorem co22 : callOk Tryz.prog 22 = true := by kernel_rfl
theorem co5 : callOk Tryz.prog 5 = true := by kernel_rfl
theorem co21 : callOk Tryz.prog 21 = true := by kernel_rfl
theorem nk1_2 : newOk (crewI 1) 2 0 = true := by kernel_rfl
theorem co32 : callOk Tryz.prog 32 = true := by kernel_rfl
theorem co13 : callOk Tryz.prog 13 = true := by kernel_rfl
theorem co14 : callOk Tryz.prog 14 = true := by kernel_rfl
theorem cl7_127 : (((preparedI aw2 3))) = false := by kernel_rfl
theorem co16 : callOk Tryz.prog 16 = true := by kernel_rfl
theorem cl7_129 : (((preparedI aw3 3))) = true := by kernel_rfl
theorem cl7_130 : ((((propI aw0 0 3 (((digN ((1 : UInt8)))))).2)) != 0) = false := by kernel_rfl
theorem cl7_131 : ((((prepI aw1 2 0 3 (((digN ((1 : UInt8)))))).2)) != 0) = false := by kernel_rfl
theorem cl7_132 : ((((prepI aw2 3 0 3 (((digN ((1 : UInt8)))))).2)) != 0) = false := by kernel_rfl
theorem co18 : callOk Tryz.prog 18 = true := by kernel_rfl
theorem cl7_134 : ((decide ((((pI aw3.f (aw3.low + 1) 8))) = ([(Stand.mk 3 (((digN ((1 : UInt8))))) 0)])))) = true := by kernel_rfl
theorem co33 : callOk Tryz.prog 33 = true := by kernel_rfl
theorem cl7_136 : ((((prepI aw3 1 0 3 (((digN ((1 : UInt8)))))).2)) != 2) = false := by kernel_rfl
theorem cl7_137 : (((committedI aw4 3))) = false := by kernel_rfl
theorem co17 : callOk Tryz.prog 17 = true := by kernel_rfl
theorem co15 : callOk Tryz.prog 15 = true := by kernel_rfl
theorem cl7_140 : ((((hearI false aw4 1 0 3 (((digN ((1 : UInt8))))) true).2)) != 0) = false := by kernel_rfl
theorem cl7_141 : (((committedI aw5 3))) = false := by kernel_rfl
theorem cl7_142 : ((((hearI false aw5 2 0 3 (((digN ((1 : UInt8))))) true).2)) != 0) = false := by kernel_rfl
theorem cl7_143 : (((committedI aw6 3))) = false := by kernel_rfl
theorem cl7_144 : ((((hearI false aw6 3 0 3 (((digN ((1 : UInt8))))) true).2)) != 0) = false := by kernel_rfl
theorem cl7_145 : (((committedI aw7 3))) = true := by kernel_rfl
theorem cl7_146 : ((((propI aw7 0 3 (((digN ((2 : UInt8)))))).2)) == 151) = true := by kernel_rfl
theorem cl7_147 : ((((propI aw8 0 9 (((digN ((1 : UInt8)))))).2)) == 150) = true := by kernel_rfl
theorem cl7_148 : ((((propI aw9 1 3 (((digN ((2 : UInt8)))))).2)) == 0) = true := by kernel_rfl
theorem cl7_149 : (((preparedI aw10 3))) = false := by kernel_rfl
theorem cl7_150 : ((decide ((((pI aw10.f (aw10.low + 1) 8))) = ([(Stand.mk 3 (((digN ((1 : UInt8))))) 0)])))) = true := by kernel_rfl
theorem co19 : callOk Tryz.prog 19 = true := by kernel_rfl
theorem cl7_152 : ((decide ((((qI aw10.f (aw10.low + 1) 8))) = ([(Stand.mk 3 (((digN ((1 : UInt8))))) 0), (Stand.mk 3 (((digN ((2 : UInt8))))) 1)])))) = true := by kernel_rfl
theorem cl7_153 : ((decide ((((qI aw10.f (aw10.low + 1) 8))) = ([(Stand.mk 3 (((digN ((1 : UInt8))))) 0), (Stand.mk 3 (((digN ((2 : UInt8))))) 1)])))) = true := by kernel_rfl
theorem cl7_154 : ((decide ((((pI aw10.f (aw10.low + 1) 8))) = ([(Stand.mk 3 (((digN ((1 : UInt8))))) 0)])))) = true := by kernel_rfl
theorem cl7_155 : ((decide ((((qI aw10.f (aw10.low + 1) 8))) = ([(Stand.mk 3 (((digN ((1 : UInt8))))) 0), (Stand.mk 3 (((digN ((2 : UInt8))))) 1)])))) = true := by kernel_rfl
theorem cl7_156 : ((decide ((((qI aw10.f (aw10.low + 1) 8))) = ([(Stand.mk 3 (((digN ((1 : UInt8))))) 0), (Stand.mk 3 (((digN ((2 : UInt8))))) 1)])))) = true := by kernel_rfl
theorem cl7_157 : ((decide ((((pI aw3.f (aw3.low + 1) 8))) = ([(Stand.mk 3 (((digN ((1 : UInt8))))) 0)])))) = true := by kernel_rfl
theorem cl7_158 : ((((prepI aw3 1 0 3 (((digN ((1 : UInt8)))))).2)) != 2) = false := by kernel_rfl
theorem cl7_159 : (((committedI aw11 3))) = false := by kernel_rfl
theorem cl7_160 : ((((hearI false aw11 1 0 3 (((digN ((1 : UInt8))))) true).2)) != 0) = false := by kernel_rfl
theorem cl7_161 : (((committedI aw12 3))) = false := by kernel_rfl
theorem cl7_162 : ((((hearI false aw12 2 0 3 (((digN ((1 : UInt8))))) true).2)) != 0) = false := by kernel_rfl
theorem cl7_163 : (((committedI aw13 3))) = false := by kernel_rfl
theorem cl7_164 : ((((hearI false aw13 3 0 3 (((digN ((1 : UInt8))))) true).2)) != 0) = false := by kernel_rfl
theorem cl7_165 : (((committedI aw14 3))) = true := by kernel_rfl
theorem cl7_166 : ((((propI aw14 0 3 (((digN ((2 : UInt8)))))).2)) == 151) = true := by kernel_rfl
theorem cl7_167 : ((((propI aw15 0 9 (((digN ((1 : UInt8)))))).2)) == 150) = true := by kernel_rfl
theorem cl7_168 : ((((propI aw16 1 3 (((digN ((2 : UInt8)))))).2)) == 0) = true := by kernel_rfl
theorem cl7_169 : (((preparedI aw17 3))) = false := by kernel_rfl
theorem cl7_170 : ((decide ((((pI aw17.f (aw17.low + 1) 8))) = ([(Stand.mk 3 (((digN ((1 : UInt8))))) 0)])))) = true := by kernel_rfl
theorem cl7_171 : ((decide ((((qI aw17.f (aw17.low + 1) 8))) = ([(Stand.mk 3 (((digN ((1 : UInt8))))) 0), (Stand.mk 3 (((digN ((2 : UInt8))))) 1)])))) = true := by kernel_rfl
theorem cl7_172 : ((decide ((((qI aw17.f (aw17.low + 1) 8))) = ([(Stand.mk 3 (((digN ((1 : UInt8))))) 0), (Stand.mk 3 (((digN ((2 : UInt8))))) 1)])))) = true := by kernel_rfl
theorem cl7_173 : ((decide ((((pI aw17.f (aw17.low + 1) 8))) = ([(Stand.mk 3 (((digN ((1 : UInt8))))) 0)])))) = true := by kernel_rfl
theorem cl7_174 : ((decide ((((qI aw17.f (aw17.low + 1) 8))) = ([(Stand.mk 3 (((digN ((1 : UInt8))))) 0), (Stand.mk 3 (((digN ((2 : UInt8))))) 1)])))) = true := by kernel_rfl
theorem cl7_175 : ((decide ((((qI aw17.f (aw17.low + 1) 8))) = ([(Stand.mk 3 (((digN ((1 : UInt8))))) 0), (Stand.mk 3 (((digN ((2 : UInt8))))) 1)])))) = true := by kernel_rfl
theorem lowW_ret (G0 : Gh) (w0 : World) (hw : Holds G0 w0) (bs : Nat) (Os : List (Nat × Obj)) (s : SlS) (hOs : HasL G0 Os) (hs : SlO G0 bs Os s) :
  RetS Tryz.prog 11 #[.pointer (some ⟨bs, 0, none⟩)] G0 w0 (.int .i64 s.low) := by
 have hC := Cx.refl hw
 have hB : Bxs G0 w0 w0.heap.size [] := Bxs.nil _ _ _
 obtain ⟨v1, l2, om3, D4, H5, e6, hn7, hM8, hH9⟩ := id hs
 obtain ⟨A14, cap15, rfl⟩ := hn7.form
 have hb10 : HasO G0 bs (.cells [(.int .i64 s.crew.faults), (.slice A14 s.crew.nodes.length cap15), (.int .i64 s.low), (.map (some l2))].toArray 56 (0, 0)) := hOs (bs, (.cells [(.int .i64 s.crew.faults), (.slice A14 s.crew.nodes.length cap15), (.int .i64 s.low), (.map (some l2))].toArray 56 (0, 0))) (by rw [e6]; simp)
 have hl11 : HasO G0 l2 om3 := hOs (l2, om3) (by rw [e6]; simp)
 have hL12 : HasL G0 H5 := fun x hx => hOs x (by rw [e6]; simp [hx])
 have hF13 := hb10.row
 refine callsOf Tryz.func11 rfl _ Tryz.ntmps11 rfl _ (argsCons argsNil (t := 0) rfl) ?_; intro Q0 hQ
 refine wcSeq <| wcRegion <| A_ rfl ?_
 refine wlThen (wcSeq (wcSeq (wcRegion ?_)))
 refine M_ rfl ?_
 refine wlCallS hC hB rfl co48 rfl rfl (none_ret _ _ hC.holds bs l2 _ s hb10 hn7) ?_; intro w hk hC hB
 refine wlThen <| wcCondF rfl <| wcSkip <| wcOf <| wcSeq <| wcRegion <| M_ rfl <| V_ (opNilCheck rfl) <| V_ (opFieldAddr rfl fo56_1) <| V_ (opLoadOne (v := (.int .i64 s.low)) rfl (RowG.cell hC.holds hF13 (j := 2) rfl) one3) <| A_ rfl <| wlThen <| wcRet ?_
 exact r1_ hQ rfl rfl (endS hC hw rfl)

theorem fresh1_ret (G0 : Gh) (w0 : World) (hw : Holds G0 w0) (self : Int) (hsil : RowG G0 0 0 silence.cells) (hnk : newOk (crewI 1) self 0 = true) :
  RetT Tryz.prog 32 #[.int .i64 1, .int .i64 self] G0 w0 [] (fun G L v => ∃ b, v = .pointer (some ⟨b, 0, none⟩) ∧ SlO G b L (newSl (crewI 1) 0)) := by
 have hC := Cx.refl hw
 have hB : Bxs G0 w0 w0.heap.size [] := Bxs.nil _ _ _
 refine callsOf Tryz.func32 rfl _ Tryz.ntmps32 rfl _ (argsCons (argsCons argsNil (t := 0) rfl) (t := 1) rfl) ?_; intro Q0 hQ
 refine wcSeq <| wcRegion <| A_ rfl ?_
 refine wlThen (wcSeq (wcRegion ?_))
 refine M_ rfl ?_
 refine wlCallG hC hB rfl co22 rfl rfl (crewOf1_ret _ _ hC.holds ) ?_; rintro v3 G w hk hC hB ⟨r1, rfl, hr2⟩
 replace hsil := hsil.mono hk.gle
 obtain ⟨v4, rfl, hs5⟩ := Crew.opIs hr2
 obtain ⟨A6, cap7, rfl⟩ := hs5.form
 refine M_ rfl ?_
 refine wlCallNew hC hB rfl co5 rfl rfl (new_ok _ _ hC.holds _ (((crewI 1))) (Crew.mkIs (x := ((crewI 1))) hs5) self 0 hsil hnk) ?_; rintro v8 G O9 w hg hC hB ⟨b10, rfl, hs11⟩
 have hok12 : SlOk ((newSl (((crewI 1))) 0)) := (newOk_ok hnk)
 refine M_ rfl <| V_ (opExtract rfl rfl) <| V_ (opExtract rfl rfl) <| A_ rfl <| A_ rfl ?_
 refine wlThen (wcSeq (wcRegion ?_))
 refine M_ rfl <| A_ rfl <| wlThen <| wcRet ?_
 exact r1_ hQ rfl rfl (endT hC O9 ⟨[], .refl _⟩ ⟨_, rfl, hs11⟩)

set_option maxRecDepth 20000 in
theorem awake_ret (G0 : Gh) (w0 : World) (hw : Holds G0 w0) (hsil : RowG G0 0 0 silence.cells) :
  RetS Tryz.prog 7 #[] G0 w0 (.bool true) := by
 have hC := Cx.refl hw
 have hB : Bxs G0 w0 w0.heap.size [] := Bxs.nil _ _ _
 refine callsOf Tryz.func7 rfl _ Tryz.ntmps7 rfl _ argsNil ?_; intro Q0 hQ
 refine wcSeq <| wcRegion <| A_ rfl ?_
 refine wlThen (wcSeq (wcRegion ?_))
 refine wlCallS hC hB rfl co21 rfl rfl (digest_ret _ _ hC.holds ((1 : UInt8))) ?_; intro w hk hC hB
 refine wlCallS hC hB rfl co21 rfl rfl (digest_ret _ _ hC.holds ((2 : UInt8))) ?_; intro w hk hC hB
 refine wlAlloc hC hB zero37 rfl ?_; intro b1 w hk hC hB
 refine wlAlloc hC hB zero37 rfl ?_; intro b2 w hk hC hB
 refine wlStore 1 (vs := (((digN ((1 : UInt8))))).cells) (cs := Dig.zero.cells) (cs' := (((digN ((1 : UInt8))))).cells) hC hB rfl rfl rfl sz37 rfl (by simp [cl_]) (by simp [cl_, Value.oneCell']) (by simp [cl_]) (by simp [cl_]) rfl ?_; intro w hC hB
 refine wlStore 0 (vs := (((digN ((2 : UInt8))))).cells) (cs := Dig.zero.cells) (cs' := (((digN ((2 : UInt8))))).cells) hC hB rfl rfl rfl sz37 rfl (by simp [cl_]) (by simp [cl_, Value.oneCell']) (by simp [cl_]) (by simp [cl_]) rfl ?_; intro w hC hB
 refine wlThen (wcSeq (wcRegion ?_))
 refine wlCallNew hC hB rfl co32 rfl rfl (fresh1_ret _ _ hC.holds 2 hsil nk1_2) ?_; rintro v3 G O4 w hg hC hB ⟨b5, rfl, hs6⟩
 replace hsil := hsil.mono hg
 have hok7 : SlOk aw0 := (newOk_ok nk1_2)
 refine A_ rfl ?_
 refine wlThen (wcSeq (wcRegion ?_))
 refine M_ rfl <| V_ (opLoadRow (cs := (((digN ((1 : UInt8))))).cells) rfl (hB.range (i := 1) (m := 32) rfl (by simp [cl_])) row37 (by simp [cl_])) ?_
 refine wlCallC (O := O4) (B := []) hC hB rfl co13 rfl rfl (propose_ret _ _ hC.holds b5 O4 aw0 hC.chunkHeld hC.chunkNd hs6 0 3 (((digN ((1 : UInt8))))) hsil hok7) ?_; rintro v8 G O9 w hg hC hB ⟨hs10, rfl⟩
 replace hsil := hsil.mono hg
 have hok11 : SlOk aw1 := (SlOk.prop hok7)
 refine A_ rfl ?_
 refine wlThen (wcSeq (wcRegion ?_))
 refine M_ rfl <| V_ (opLoadRow (cs := (((digN ((1 : UInt8))))).cells) rfl (hB.range (i := 1) (m := 32) rfl (by simp [cl_])) row37 (by simp [cl_])) ?_
 refine wlCallC (O := O9) (B := []) hC hB rfl co14 rfl rfl (prepare_ret _ _ hC.holds b5 O9 aw1 hC.chunkHeld hC.chunkNd hs10 2 0 3 (((digN ((1 : UInt8))))) hsil) ?_; rintro v12 G O13 w hg hC hB ⟨hs14, rfl⟩
 replace hsil := hsil.mono hg
 have hok15 : SlOk aw2 := (SlOk.prep hok11)
 refine A_ rfl ?_
 refine wlThen (wcSeq (wcRegion ?_))
 refine M_ rfl ?_
 refine wlCallS hC hB rfl co16 rfl rfl (RetS.cast (RetS.lend hC (fun G_ hg_ hh_ hL_ => prepared_ret _ _ hh_ b5 O13 aw2 (fun y hy => hL_ y (List.mem_append_left _ hy)) (hs14.mono hg_) 3 (hsil.mono hg_))) (congrArg Value.bool cl7_127)) ?_; intro w hk hC hB
 refine A_ rfl ?_
 refine wlThen (wcSeq (wcRegion ?_))
 refine M_ rfl <| V_ (opLoadRow (cs := (((digN ((1 : UInt8))))).cells) rfl (hB.range (i := 1) (m := 32) rfl (by simp [cl_])) row37 (by simp [cl_])) ?_
 refine wlCallC (O := O13) (B := []) hC hB rfl co14 rfl rfl (prepare_ret _ _ hC.holds b5 O13 aw2 hC.chunkHeld hC.chunkNd hs14 3 0 3 (((digN ((1 : UInt8))))) hsil) ?_; rintro v16 G O17 w hg hC hB ⟨hs18, rfl⟩
 replace hsil := hsil.mono hg
 have hok19 : SlOk aw3 := (SlOk.prep hok15)
 refine A_ rfl ?_
 refine wlThen (wcSeq (wcRegion ?_))
 refine M_ rfl ?_
 refine wlCallS hC hB rfl co16 rfl rfl (RetS.cast (RetS.lend hC (fun G_ hg_ hh_ hL_ => prepared_ret _ _ hh_ b5 O17 aw3 (fun y hy => hL_ y (List.mem_append_left _ hy)) (hs18.mono hg_) 3 (hsil.mono hg_))) (congrArg Value.bool cl7_129)) ?_; intro w hk hC hB
 refine A_ rfl ?_
 refine wlThen (wcSeq (wcSeq ?_))
 refine wcDrawS 32 [0, 1, 3, 7, 15, 31, 63, 127, 255, 511, 1023, 2047, 4095, 8191, 16383, 32767, 65535, 131071, 262143, 524287, 262143, 1310719, 3407871, 8388607, 16777215, 33554431, 67108863, 134217727, 134217727, 536870911, 1073741823, 2147483647] fmix (by kernel_rfl) (by kernel_rfl) rfl hC hB ?_; intro w hC hB
 refine D_ 0 rfl rfl (fun _ => opMove rfl) <| D_ 1 rfl rfl (fun _ => (OpVal.cast (opNeq rfl rfl) (congrArg Value.bool cl7_130))) <| D_ 2 rfl rfl (fun _ => opMove rfl) <| DG_ 3 rfl rfl rfl rfl (fun _ => opMove rfl) <| DG_ 4 rfl rfl rfl rfl (fun _ => (OpVal.cast (opNeq rfl rfl) (congrArg Value.bool cl7_131))) <| D_ 5 rfl rfl (fun _ => opPickF rfl rfl) <| D_ 6 rfl rfl (fun _ => opMove rfl) <| DG_ 7 rfl rfl rfl rfl (fun _ => opMove rfl) <| DG_ 8 rfl rfl rfl rfl (fun _ => (OpVal.cast (opNeq rfl rfl) (congrArg Value.bool cl7_132))) <| D_ 9 rfl rfl (fun _ => opPickF rfl rfl) <| D_ 10 rfl rfl (fun _ => opMove rfl) <| DG_ 11 rfl rfl rfl rfl (fun _ => opMove rfl) <| D_ 12 rfl rfl (fun _ => opPickF rfl rfl) <| D_ 13 rfl rfl (fun _ => opMove rfl) <| DG_ 14 rfl rfl rfl rfl (fun _ => opMove rfl) <| DG_ 15 rfl rfl rfl rfl (fun _ => opNot rfl) <| D_ 16 rfl rfl (fun _ => opPickF rfl rfl) <| D_ 17 rfl rfl (fun _ => opMove rfl) <| DG_ 18 rfl rfl rfl rfl (fun _ => opMove rfl) <| EG_ 20 rfl rfl rfl rfl (opLoadRow (cs := (((digN ((1 : UInt8))))).cells) rfl (hB.range (i := 1) (m := 32) rfl (by simp [cl_])) row37 (by simp [cl_])) ?_
 refine DG_ 21 rfl rfl rfl rfl (fun _ => (B_ (ps := [(0, .const (.int .i64 3)), (1, .tmp 47)]) (cs := ((.int .i64 3) :: ((((digN ((1 : UInt8))))).cells ++ ((.int .i64 0) :: [])))) so44 zero44 rfl rfl)) ?_
 refine wdAll [19, 22] (by kernel_rfl) rfl ⟨wd1 rfl ?_, wd1 rfl ?_, trivial⟩
 ·
  intro hGd
  refine wlOn rfl rfl ?_
  refine wlCallO (bl := [(b2, 37, (((digN ((2 : UInt8))))).cells), (b1, 37, (((digN ((1 : UInt8))))).cells)]) (r := []) hC hB rfl co18 rfl rfl (RetO.lend hC (fun _ _ _ _ ⟨A, cap, e, h⟩ => ⟨A, cap, e, h.any (fun _ _ _ _ h => h)⟩) (fun G_ hg_ hh_ hL_ => p_ret _ _ hh_ b5 O17 aw3 (fun y hy => hL_ y (List.mem_append_left _ hy)) (hs18.mono hg_) (hsil.mono hg_) hok19.low)) ?_; rintro v24 G o22 w hk hC hB ⟨A20, cap21, rfl, hO23⟩
  replace hs18 := hs18.mono hk.gle
  replace hsil := hsil.mono hk.gle
  refine wdNext hGd rfl (kpKeep rfl kpNil) (Tk.cons (p := (_, fun w => OpVal _ _ _ w _ _)) (opLoadRow (cs := (((digN ((1 : UInt8))))).cells) rfl (hB.range (i := 1) (m := 32) rfl (by simp [cl_])) row37 (by simp [cl_])) (Tk.nil _)) ?_
  refine wdAll [22] (by kernel_rfl) rfl ⟨wd1 rfl ?_, trivial⟩
  intro hGd
  refine wlOn rfl rfl ?_
  refine wlBuildSlice (α := Stand) (ps := [(0, .tmp 48)]) (xs := [(Stand.mk 3 (((digN ((1 : UInt8))))) 0)]) (rows := [((.int .i64 3) :: ((((digN ((1 : UInt8))))).cells ++ ((.int .i64 0) :: [])))]) elo38 rfl rfl hC hB rfl rfl rfl ⟨rfl, trivial⟩ rfl ?_; intro b25 G w hk hC hB hs26
  replace hs18 := hs18.mono hk.gle; replace hO23 := hO23.mono hk.gle
  replace hsil := hsil.mono hk.gle
  refine wdNext hGd rfl (kpDrop rfl kpNil) (Tk.nil _) ?_
  refine wdAll [23] (by kernel_rfl) rfl ⟨wd1 rfl ?_, trivial⟩
  intro hGd
  refine wlOn rfl rfl ?_
  obtain ⟨G, hg28, hC, hB, hs27⟩ := Ow.freeze' (bl := [(b2, 37, (((digN ((2 : UInt8))))).cells), (b1, 37, (((digN ((1 : UInt8))))).cells)]) (r := []) hO23 hC (Nat.le_refl _) hB (Nat.le_trans (by decide) (by decide : (32 : Nat) ≤ maxL))
  replace hs18 := hs18.mono hg28; replace hs26 := hs26.mono hg28
  replace hsil := hsil.mono hg28
  refine wlCallS hC hB rfl co33 rfl rfl (RetS.cast (stands_ret _ _ hC.holds _ (((pI aw3.f (aw3.low + 1) 8))) hs27 _ ([(Stand.mk 3 (((digN ((1 : UInt8))))) 0)]) hs26) (congrArg Value.bool cl7_134)) ?_; intro w hk hC hB
  refine wdNext hGd rfl kpNil (Tk.nil _) ?_
  refine DG_ 24 rfl rfl rfl rfl (fun _ => opNot rfl) <| D_ 25 rfl rfl (fun _ => opPickF rfl rfl) <| D_ 26 rfl rfl (fun _ => opMove rfl) <| DG_ 27 rfl rfl rfl rfl (fun _ => opMove rfl) <| EG_ 28 rfl rfl rfl rfl (opLoadRow (cs := (((digN ((1 : UInt8))))).cells) rfl (hB.range (i := 1) (m := 32) rfl (by simp [cl_])) row37 (by simp [cl_])) ?_
  refine wdAll [29] (by kernel_rfl) rfl ⟨wd1 rfl ?_, trivial⟩
  intro hGd
  refine wlOn rfl rfl ?_
  refine wlCallC (O := O17) (B := []) hC hB rfl co14 rfl rfl (prepare_ret _ _ hC.holds b5 O17 aw3 hC.chunkHeld hC.chunkNd hs18 1 0 3 (((digN ((1 : UInt8))))) hsil) ?_; rintro v29 G O30 w hg hC hB ⟨hs31, rfl⟩
  replace hsil := hsil.mono hg
  have hok32 : SlOk aw4 := (SlOk.prep hok19)
  refine wdNext hGd rfl (kpDrop rfl kpNil) (Tk.nil _) ?_
  refine DG_ 30 rfl rfl rfl rfl (fun _ => (OpVal.cast (opNeq rfl rfl) (congrArg Value.bool cl7_136))) <| D_ 31 rfl rfl (fun _ => opPickF rfl rfl) <| wdDone (by kernel_rfl) <| wcOf <| wcCondF rfl <| wcSkip <| wcOf ?_
  refine wcSeq (wcSeq (wcRegion ?_))
  refine A_ rfl <| wlThen <| wcBlock ?_
  refine wcLoop 5 ?_
  refine wrSucc ?_
  refine wcSeq (wcSeq (wcRegion ?_))
  refine M_ rfl <| V_ (opLss rfl rfl) <| wlThen <| wcCondT rfl <| wcSkip <| wcOf <| wcSeq ?_
  refine wcBlock (wcSeq (wcRegion ?_))
  refine M_ rfl ?_
  refine wlCallS hC hB rfl co17 rfl rfl (RetS.cast (RetS.lend hC (fun G_ hg_ hh_ hL_ => committed_ret _ _ hh_ b5 O30 aw4 (fun y hy => hL_ y (List.mem_append_left _ hy)) (hs31.mono hg_) 3 (hsil.mono hg_))) (congrArg Value.bool cl7_137)) ?_; intro w hk hC hB
  refine M_ rfl <| wlOn rfl rfl <| M_ rfl <| wlOn rfl rfl <| M_ rfl <| wlOn rfl rfl <| V_ (opLoadRow (cs := (((digN ((1 : UInt8))))).cells) rfl (hB.range (i := 1) (m := 32) rfl (by simp [cl_])) row37 (by simp [cl_])) <| wlOn rfl rfl ?_
  refine wlCallC (O := O30) (B := []) hC hB rfl co15 rfl rfl (commit_ret _ _ hC.holds b5 O30 aw4 hC.chunkHeld hC.chunkNd hs31 1 0 3 (((digN ((1 : UInt8)))))) ?_; rintro v33 G O34 w hg hC hB ⟨hs35, rfl⟩
  replace hsil := hsil.mono hg
  have hok36 : SlOk aw5 := (SlOk.hear hok32)
  refine wlOn rfl rfl <| V_ (OpVal.cast (opNeq rfl rfl) (congrArg Value.bool cl7_140)) <| V_ (opPickF rfl rfl) <| wlThen <| wcCondF rfl <| wcSkip <| wcOf <| wcRegion <| M_ rfl <| V_ (OpVal.cast (v' := .int .i64 2) (opAdd rfl rfl) (congrArg (Value.int .i64) (by decide))) <| A_ rfl <| wlRound <| wrSucc ?_
  refine wcSeq (wcSeq (wcRegion ?_))
  refine M_ rfl <| V_ (opLss rfl rfl) <| wlThen <| wcCondT rfl <| wcSkip <| wcOf <| wcSeq ?_
  refine wcBlock (wcSeq (wcRegion ?_))
  refine M_ rfl ?_
  refine wlCallS hC hB rfl co17 rfl rfl (RetS.cast (RetS.lend hC (fun G_ hg_ hh_ hL_ => committed_ret _ _ hh_ b5 O34 aw5 (fun y hy => hL_ y (List.mem_append_left _ hy)) (hs35.mono hg_) 3 (hsil.mono hg_))) (congrArg Value.bool cl7_141)) ?_; intro w hk hC hB
  refine M_ rfl <| wlOn rfl rfl <| M_ rfl <| wlOn rfl rfl <| M_ rfl <| wlOn rfl rfl <| V_ (opLoadRow (cs := (((digN ((1 : UInt8))))).cells) rfl (hB.range (i := 1) (m := 32) rfl (by simp [cl_])) row37 (by simp [cl_])) <| wlOn rfl rfl ?_
  refine wlCallC (O := O34) (B := []) hC hB rfl co15 rfl rfl (commit_ret _ _ hC.holds b5 O34 aw5 hC.chunkHeld hC.chunkNd hs35 2 0 3 (((digN ((1 : UInt8)))))) ?_; rintro v37 G O38 w hg hC hB ⟨hs39, rfl⟩
  replace hsil := hsil.mono hg
  have hok40 : SlOk aw6 := (SlOk.hear hok36)
  refine wlOn rfl rfl <| V_ (OpVal.cast (opNeq rfl rfl) (congrArg Value.bool cl7_142)) <| V_ (opPickF rfl rfl) <| wlThen <| wcCondF rfl <| wcSkip <| wcOf <| wcRegion <| M_ rfl <| V_ (OpVal.cast (v' := .int .i64 3) (opAdd rfl rfl) (congrArg (Value.int .i64) (by decide))) <| A_ rfl <| wlRound <| wrSucc ?_
  refine wcSeq (wcSeq (wcRegion ?_))
  refine M_ rfl <| V_ (opLss rfl rfl) <| wlThen <| wcCondT rfl <| wcSkip <| wcOf <| wcSeq ?_
  refine wcBlock (wcSeq (wcRegion ?_))
  refine M_ rfl ?_
  refine wlCallS hC hB rfl co17 rfl rfl (RetS.cast (RetS.lend hC (fun G_ hg_ hh_ hL_ => committed_ret _ _ hh_ b5 O38 aw6 (fun y hy => hL_ y (List.mem_append_left _ hy)) (hs39.mono hg_) 3 (hsil.mono hg_))) (congrArg Value.bool cl7_143)) ?_; intro w hk hC hB
  refine M_ rfl <| wlOn rfl rfl <| M_ rfl <| wlOn rfl rfl <| M_ rfl <| wlOn rfl rfl <| V_ (opLoadRow (cs := (((digN ((1 : UInt8))))).cells) rfl (hB.range (i := 1) (m := 32) rfl (by simp [cl_])) row37 (by simp [cl_])) <| wlOn rfl rfl ?_
  refine wlCallC (O := O38) (B := []) hC hB rfl co15 rfl rfl (commit_ret _ _ hC.holds b5 O38 aw6 hC.chunkHeld hC.chunkNd hs39 3 0 3 (((digN ((1 : UInt8)))))) ?_; rintro v41 G O42 w hg hC hB ⟨hs43, rfl⟩
  replace hsil := hsil.mono hg
  have hok44 : SlOk aw7 := (SlOk.hear hok40)
  refine wlOn rfl rfl <| V_ (OpVal.cast (opNeq rfl rfl) (congrArg Value.bool cl7_144)) <| V_ (opPickF rfl rfl) <| wlThen <| wcCondF rfl <| wcSkip <| wcOf <| wcRegion <| M_ rfl <| V_ (OpVal.cast (v' := .int .i64 4) (opAdd rfl rfl) (congrArg (Value.int .i64) (by decide))) <| A_ rfl <| wlRound <| wrSucc ?_
  refine wcSeq (wcSeq (wcRegion ?_))
  refine M_ rfl <| V_ (opLss rfl rfl) <| wlThen <| wcCondF rfl <| wcExit <| wcOf <| wcSeq <| wcRegion <| M_ rfl ?_
  refine wlCallS hC hB rfl co17 rfl rfl (RetS.cast (RetS.lend hC (fun G_ hg_ hh_ hL_ => committed_ret _ _ hh_ b5 O42 aw7 (fun y hy => hL_ y (List.mem_append_left _ hy)) (hs43.mono hg_) 3 (hsil.mono hg_))) (congrArg Value.bool cl7_145)) ?_; intro w hk hC hB
  refine A_ rfl <| wlThen <| wcSeq ?_
  refine wcDrawS 43 [0, 1, 3, 3, 15, 31, 63, 127, 255, 255, 1023, 2047, 4095, 8191, 16383, 16383, 65535, 131071, 262143, 524287, 1048575, 2097151, 4194303, 8388607, 16777215, 33554431, 67108863, 33554431, 167772159, 436207615, 1073741823, 2147483647, 4294967295, 8589934591, 17179869183, 8589934591, 42949672959, 8589934591, 146028888063, 523986010111, 1099511627775, 2199023255551, 4398046511103] fmix (by kernel_rfl) (by kernel_rfl) rfl hC hB ?_; intro w hC hB
  refine D_ 0 rfl rfl (fun _ => opMove rfl) <| D_ 1 rfl rfl (fun _ => opMove rfl) <| DG_ 2 rfl rfl rfl rfl (fun _ => opMove rfl) <| EG_ 3 rfl rfl rfl rfl (opLoadRow (cs := (((digN ((2 : UInt8))))).cells) rfl (hB.range (i := 0) (m := 32) rfl (by simp [cl_])) row37 (by simp [cl_])) ?_
  refine wdAll [4] (by kernel_rfl) rfl ⟨wd1 rfl ?_, trivial⟩
  intro hGd
  refine wlOn rfl rfl ?_
  refine wlCallC (O := O42) (B := []) hC hB rfl co13 rfl rfl (propose_ret _ _ hC.holds b5 O42 aw7 hC.chunkHeld hC.chunkNd hs43 0 3 (((digN ((2 : UInt8))))) hsil hok44) ?_; rintro v45 G O46 w hg hC hB ⟨hs47, rfl⟩
  replace hsil := hsil.mono hg
  have hok48 : SlOk aw8 := (SlOk.prop hok44)
  refine wdNext hGd rfl (kpDrop rfl kpNil) (Tk.nil _) ?_
  refine DG_ 5 rfl rfl rfl rfl (fun _ => (OpVal.cast (opEql rfl rfl) (congrArg Value.bool cl7_146))) <| D_ 6 rfl rfl (fun _ => opPickT rfl rfl) <| D_ 7 rfl rfl (fun _ => opMove rfl) <| DG_ 8 rfl rfl rfl rfl (fun _ => opMove rfl) <| EG_ 9 rfl rfl rfl rfl (opLoadRow (cs := (((digN ((1 : UInt8))))).cells) rfl (hB.range (i := 1) (m := 32) rfl (by simp [cl_])) row37 (by simp [cl_])) ?_
  refine wdAll [10] (by kernel_rfl) rfl ⟨wd1 rfl ?_, trivial⟩
  intro hGd
  refine wlOn rfl rfl ?_
  refine wlCallC (O := O46) (B := []) hC hB rfl co13 rfl rfl (propose_ret _ _ hC.holds b5 O46 aw8 hC.chunkHeld hC.chunkNd hs47 0 9 (((digN ((1 : UInt8))))) hsil hok48) ?_; rintro v49 G O50 w hg hC hB ⟨hs51, rfl⟩
  replace hsil := hsil.mono hg
  have hok52 : SlOk aw9 := (SlOk.prop hok48)
  refine wdNext hGd rfl (kpDrop rfl kpNil) (Tk.nil _) ?_
  refine DG_ 11 rfl rfl rfl rfl (fun _ => (OpVal.cast (opEql rfl rfl) (congrArg Value.bool cl7_147))) <| D_ 12 rfl rfl (fun _ => opPickT rfl rfl) <| D_ 13 rfl rfl (fun _ => opMove rfl) <| DG_ 14 rfl rfl rfl rfl (fun _ => opMove rfl) <| EG_ 15 rfl rfl rfl rfl (opLoadRow (cs := (((digN ((2 : UInt8))))).cells) rfl (hB.range (i := 0) (m := 32) rfl (by simp [cl_])) row37 (by simp [cl_])) ?_
  refine wdAll [16] (by kernel_rfl) rfl ⟨wd1 rfl ?_, trivial⟩
  intro hGd
  refine wlOn rfl rfl ?_
  refine wlCallC (O := O50) (B := []) hC hB rfl co13 rfl rfl (propose_ret _ _ hC.holds b5 O50 aw9 hC.chunkHeld hC.chunkNd hs51 1 3 (((digN ((2 : UInt8))))) hsil hok52) ?_; rintro v53 G O54 w hg hC hB ⟨hs55, rfl⟩
  replace hsil := hsil.mono hg
  have hok56 : SlOk aw10 := (SlOk.prop hok52)
  refine wdNext hGd rfl (kpDrop rfl kpNil) (Tk.nil _) ?_
  refine DG_ 17 rfl rfl rfl rfl (fun _ => (OpVal.cast (opEql rfl rfl) (congrArg Value.bool cl7_148))) <| D_ 18 rfl rfl (fun _ => opPickT rfl rfl) <| D_ 19 rfl rfl (fun _ => opMove rfl) <| DG_ 20 rfl rfl rfl rfl (fun _ => opMove rfl) ?_
  refine wdAll [21] (by kernel_rfl) rfl ⟨wd1 rfl ?_, trivial⟩
  intro hGd
  refine wlOn rfl rfl ?_
  refine wlCallS hC hB rfl co16 rfl rfl (RetS.cast (RetS.lend hC (fun G_ hg_ hh_ hL_ => prepared_ret _ _ hh_ b5 O54 aw10 (fun y hy => hL_ y (List.mem_append_left _ hy)) (hs55.mono hg_) 3 (hsil.mono hg_))) (congrArg Value.bool cl7_149)) ?_; intro w hk hC hB
  refine wdNext hGd rfl kpNil (Tk.nil _) ?_
  refine DG_ 22 rfl rfl rfl rfl (fun _ => opNot rfl) <| D_ 23 rfl rfl (fun _ => opPickT rfl rfl) <| D_ 24 rfl rfl (fun _ => opMove rfl) <| DG_ 25 rfl rfl rfl rfl (fun _ => opMove rfl) <| EG_ 27 rfl rfl rfl rfl (opLoadRow (cs := (((digN ((1 : UInt8))))).cells) rfl (hB.range (i := 1) (m := 32) rfl (by simp [cl_])) row37 (by simp [cl_])) <| DG_ 28 rfl rfl rfl rfl (fun _ => (B_ (ps := [(0, .const (.int .i64 3)), (1, .tmp 101)]) (cs := ((.int .i64 3) :: ((((digN ((1 : UInt8))))).cells ++ ((.int .i64 0) :: [])))) so44 zero44 rfl rfl)) ?_
  refine wdAll [26, 29] (by kernel_rfl) rfl ⟨wd1 rfl ?_, wd1 rfl ?_, trivial⟩
  ·
   intro hGd
   refine wlOn rfl rfl ?_
   refine wlCallO (bl := [(b2, 37, (((digN ((2 : UInt8))))).cells), (b1, 37, (((digN ((1 : UInt8))))).cells)]) (r := []) hC hB rfl co18 rfl rfl (RetO.lend hC (fun _ _ _ _ ⟨A, cap, e, h⟩ => ⟨A, cap, e, h.any (fun _ _ _ _ h => h)⟩) (fun G_ hg_ hh_ hL_ => p_ret _ _ hh_ b5 O54 aw10 (fun y hy => hL_ y (List.mem_append_left _ hy)) (hs55.mono hg_) (hsil.mono hg_) hok56.low)) ?_; rintro v61 G o59 w hk hC hB ⟨A57, cap58, rfl, hO60⟩
   replace hs55 := hs55.mono hk.gle
   replace hsil := hsil.mono hk.gle
   refine wdNext hGd rfl (kpKeep rfl kpNil) (Tk.cons (p := (_, fun w => OpVal _ _ _ w _ _)) (opLoadRow (cs := (((digN ((1 : UInt8))))).cells) rfl (hB.range (i := 1) (m := 32) rfl (by simp [cl_])) row37 (by simp [cl_])) (Tk.nil _)) ?_
   refine wdAll [29] (by kernel_rfl) rfl ⟨wd1 rfl ?_, trivial⟩
   intro hGd
   refine wlOn rfl rfl ?_
   refine wlBuildSlice (α := Stand) (ps := [(0, .tmp 102)]) (xs := [(Stand.mk 3 (((digN ((1 : UInt8))))) 0)]) (rows := [((.int .i64 3) :: ((((digN ((1 : UInt8))))).cells ++ ((.int .i64 0) :: [])))]) elo38 rfl rfl hC hB rfl rfl rfl ⟨rfl, trivial⟩ rfl ?_; intro b62 G w hk hC hB hs63
   replace hs55 := hs55.mono hk.gle; replace hO60 := hO60.mono hk.gle
   replace hsil := hsil.mono hk.gle
   refine wdNext hGd rfl (kpDrop rfl kpNil) (Tk.nil _) ?_
   refine wdAll [30] (by kernel_rfl) rfl ⟨wd1 rfl ?_, trivial⟩
   intro hGd
   refine wlOn rfl rfl ?_
   obtain ⟨G, hg65, hC, hB, hs64⟩ := Ow.freeze' (bl := [(b2, 37, (((digN ((2 : UInt8))))).cells), (b1, 37, (((digN ((1 : UInt8))))).cells)]) (r := []) hO60 hC (Nat.le_refl _) hB (Nat.le_trans (by decide) (by decide : (32 : Nat) ≤ maxL))
   replace hs55 := hs55.mono hg65; replace hs63 := hs63.mono hg65
   replace hsil := hsil.mono hg65
   refine wlCallS hC hB rfl co33 rfl rfl (RetS.cast (stands_ret _ _ hC.holds _ (((pI aw10.f (aw10.low + 1) 8))) hs64 _ ([(Stand.mk 3 (((digN ((1 : UInt8))))) 0)]) hs63) (congrArg Value.bool cl7_150)) ?_; intro w hk hC hB
   refine wdNext hGd rfl kpNil (Tk.nil _) ?_
   refine D_ 31 rfl rfl (fun _ => opPickT rfl rfl) <| D_ 32 rfl rfl (fun _ => opMove rfl) <| DG_ 33 rfl rfl rfl rfl (fun _ => opMove rfl) <| EG_ 35 rfl rfl rfl rfl (opLoadRow (cs := (((digN ((1 : UInt8))))).cells) rfl (hB.range (i := 1) (m := 32) rfl (by simp [cl_])) row37 (by simp [cl_])) <| DG_ 36 rfl rfl rfl rfl (fun _ => (B_ (ps := [(0, .const (.int .i64 3)), (1, .tmp 109)]) (cs := ((.int .i64 3) :: ((((digN ((1 : UInt8))))).cells ++ ((.int .i64 0) :: [])))) so44 zero44 rfl rfl)) <| EG_ 37 rfl rfl rfl rfl (opLoadRow (cs := (((digN ((2 : UInt8))))).cells) rfl (hB.range (i := 0) (m := 32) rfl (by simp [cl_])) row37 (by simp [cl_])) <| DG_ 38 rfl rfl rfl rfl (fun _ => (B_ (ps := [(0, .const (.int .i64 3)), (1, .tmp 111), (2, .const (.int .i64 1))]) (cs := ((.int .i64 3) :: ((((digN ((2 : UInt8))))).cells ++ ((.int .i64 1) :: [])))) so44 zero44 rfl rfl)) ?_
   refine wdAll [34, 39] (by kernel_rfl) rfl ⟨wd1 rfl ?_, wd1 rfl ?_, trivial⟩
   ·
    intro hGd
    refine wlOn rfl rfl ?_
    refine wlCallO (bl := [(b2, 37, (((digN ((2 : UInt8))))).cells), (b1, 37, (((digN ((1 : UInt8))))).cells)]) (r := []) hC hB rfl co19 rfl rfl (RetO.lend hC (fun _ _ _ _ ⟨A, cap, e, h⟩ => ⟨A, cap, e, h.any (fun _ _ _ _ h => h)⟩) (fun G_ hg_ hh_ hL_ => q_ret _ _ hh_ b5 O54 aw10 (fun y hy => hL_ y (List.mem_append_left _ hy)) (hs55.mono hg_) hok56.low (fun k t h => Nat.le_trans (hok56.q4 k t h) (by decide)))) ?_; rintro v70 G o68 w hk hC hB ⟨A66, cap67, rfl, hO69⟩
    replace hs55 := hs55.mono hk.gle
    replace hsil := hsil.mono hk.gle
    refine wdNext hGd rfl (kpKeep rfl (kpKeep rfl kpNil)) (Tk.cons (p := (_, fun w => OpVal _ _ _ w _ _)) (opLoadRow (cs := (((digN ((2 : UInt8))))).cells) rfl (hB.range (i := 0) (m := 32) rfl (by simp [cl_])) row37 (by simp [cl_])) (Tk.cons (p := (_, fun w => OpVal _ _ _ w _ _)) (opLoadRow (cs := (((digN ((1 : UInt8))))).cells) rfl (hB.range (i := 1) (m := 32) rfl (by simp [cl_])) row37 (by simp [cl_])) (Tk.nil _))) ?_
    refine wdAll [39] (by kernel_rfl) rfl ⟨wd1 rfl ?_, trivial⟩
    intro hGd
    refine wlOn rfl rfl ?_
    refine wlBuildSlice (α := Stand) (ps := [(0, .tmp 110), (1, .tmp 112)]) (xs := [(Stand.mk 3 (((digN ((1 : UInt8))))) 0), (Stand.mk 3 (((digN ((2 : UInt8))))) 1)]) (rows := [((.int .i64 3) :: ((((digN ((1 : UInt8))))).cells ++ ((.int .i64 0) :: []))), ((.int .i64 3) :: ((((digN ((2 : UInt8))))).cells ++ ((.int .i64 1) :: [])))]) elo38 rfl rfl hC hB rfl rfl rfl ⟨rfl, rfl, trivial⟩ rfl ?_; intro b71 G w hk hC hB hs72
    replace hs55 := hs55.mono hk.gle; replace hO69 := hO69.mono hk.gle
    replace hsil := hsil.mono hk.gle
    refine wdNext hGd rfl (kpDrop rfl (kpDrop rfl kpNil)) (Tk.nil _) ?_
    refine wdAll [40] (by kernel_rfl) rfl ⟨wd1 rfl ?_, trivial⟩
    intro hGd
    refine wlOn rfl rfl ?_
    obtain ⟨G, hg74, hC, hB, hs73⟩ := Ow.freeze' (bl := [(b2, 37, (((digN ((2 : UInt8))))).cells), (b1, 37, (((digN ((1 : UInt8))))).cells)]) (r := []) hO69 hC (Nat.le_refl _) hB (Nat.le_trans (by decide) (by decide : (32 : Nat) ≤ maxL))
    replace hs55 := hs55.mono hg74; replace hs72 := hs72.mono hg74
    replace hsil := hsil.mono hg74
    refine wlCallS hC hB rfl co33 rfl rfl (RetS.cast (stands_ret _ _ hC.holds _ (((qI aw10.f (aw10.low + 1) 8))) hs73 _ ([(Stand.mk 3 (((digN ((1 : UInt8))))) 0), (Stand.mk 3 (((digN ((2 : UInt8))))) 1)]) hs72) (congrArg Value.bool cl7_152)) ?_; intro w hk hC hB
    refine wdNext hGd rfl kpNil (Tk.nil _) ?_
    refine D_ 41 rfl rfl (fun _ => opPickT rfl rfl) <| D_ 42 rfl rfl (fun _ => opAssign rfl) <| wdDone (by kernel_rfl) <| wcOf <| wcRet ?_
    exact r1_ hQ rfl rfl (endS hC hw rfl)
   ·
    intro hGd
    refine wlOn rfl rfl ?_
    refine wlBuildSlice (α := Stand) (ps := [(0, .tmp 110), (1, .tmp 112)]) (xs := [(Stand.mk 3 (((digN ((1 : UInt8))))) 0), (Stand.mk 3 (((digN ((2 : UInt8))))) 1)]) (rows := [((.int .i64 3) :: ((((digN ((1 : UInt8))))).cells ++ ((.int .i64 0) :: []))), ((.int .i64 3) :: ((((digN ((2 : UInt8))))).cells ++ ((.int .i64 1) :: [])))]) elo38 rfl rfl hC hB rfl rfl rfl ⟨rfl, rfl, trivial⟩ rfl ?_; intro b75 G w hk hC hB hs76
    replace hs55 := hs55.mono hk.gle
    replace hsil := hsil.mono hk.gle
    refine wdNext hGd rfl (kpDrop rfl (kpDrop rfl kpNil)) (Tk.nil _) ?_
    refine wdAll [34] (by kernel_rfl) rfl ⟨wd1 rfl ?_, trivial⟩
    intro hGd
    refine wlOn rfl rfl ?_
    refine wlCallO (bl := [(b2, 37, (((digN ((2 : UInt8))))).cells), (b1, 37, (((digN ((1 : UInt8))))).cells)]) (r := []) hC hB rfl co19 rfl rfl (RetO.lend hC (fun _ _ _ _ ⟨A, cap, e, h⟩ => ⟨A, cap, e, h.any (fun _ _ _ _ h => h)⟩) (fun G_ hg_ hh_ hL_ => q_ret _ _ hh_ b5 O54 aw10 (fun y hy => hL_ y (List.mem_append_left _ hy)) (hs55.mono hg_) hok56.low (fun k t h => Nat.le_trans (hok56.q4 k t h) (by decide)))) ?_; rintro v81 G o79 w hk hC hB ⟨A77, cap78, rfl, hO80⟩
    replace hs55 := hs55.mono hk.gle; replace hs76 := hs76.mono hk.gle
    replace hsil := hsil.mono hk.gle
    refine wdNext hGd rfl kpNil (Tk.nil _) ?_
    refine wdAll [40] (by kernel_rfl) rfl ⟨wd1 rfl ?_, trivial⟩
    intro hGd
    refine wlOn rfl rfl ?_
    obtain ⟨G, hg83, hC, hB, hs82⟩ := Ow.freeze' (bl := [(b2, 37, (((digN ((2 : UInt8))))).cells), (b1, 37, (((digN ((1 : UInt8))))).cells)]) (r := []) hO80 hC (Nat.le_refl _) hB (Nat.le_trans (by decide) (by decide : (32 : Nat) ≤ maxL))
    replace hs55 := hs55.mono hg83; replace hs76 := hs76.mono hg83
    replace hsil := hsil.mono hg83
    refine wlCallS hC hB rfl co33 rfl rfl (RetS.cast (stands_ret _ _ hC.holds _ (((qI aw10.f (aw10.low + 1) 8))) hs82 _ ([(Stand.mk 3 (((digN ((1 : UInt8))))) 0), (Stand.mk 3 (((digN ((2 : UInt8))))) 1)]) hs76) (congrArg Value.bool cl7_153)) ?_; intro w hk hC hB
    refine wdNext hGd rfl kpNil (Tk.nil _) ?_
    refine D_ 41 rfl rfl (fun _ => opPickT rfl rfl) <| D_ 42 rfl rfl (fun _ => opAssign rfl) <| wdDone (by kernel_rfl) <| wcOf <| wcRet ?_
    exact r1_ hQ rfl rfl (endS hC hw rfl)
  ·
   intro hGd
   refine wlOn rfl rfl ?_
   refine wlBuildSlice (α := Stand) (ps := [(0, .tmp 102)]) (xs := [(Stand.mk 3 (((digN ((1 : UInt8))))) 0)]) (rows := [((.int .i64 3) :: ((((digN ((1 : UInt8))))).cells ++ ((.int .i64 0) :: [])))]) elo38 rfl rfl hC hB rfl rfl rfl ⟨rfl, trivial⟩ rfl ?_; intro b84 G w hk hC hB hs85
   replace hs55 := hs55.mono hk.gle
   replace hsil := hsil.mono hk.gle
   refine wdNext hGd rfl (kpDrop rfl kpNil) (Tk.nil _) ?_
   refine wdAll [26] (by kernel_rfl) rfl ⟨wd1 rfl ?_, trivial⟩
   intro hGd
   refine wlOn rfl rfl ?_
   refine wlCallO (bl := [(b2, 37, (((digN ((2 : UInt8))))).cells), (b1, 37, (((digN ((1 : UInt8))))).cells)]) (r := []) hC hB rfl co18 rfl rfl (RetO.lend hC (fun _ _ _ _ ⟨A, cap, e, h⟩ => ⟨A, cap, e, h.any (fun _ _ _ _ h => h)⟩) (fun G_ hg_ hh_ hL_ => p_ret _ _ hh_ b5 O54 aw10 (fun y hy => hL_ y (List.mem_append_left _ hy)) (hs55.mono hg_) (hsil.mono hg_) hok56.low)) ?_; rintro v90 G o88 w hk hC hB ⟨A86, cap87, rfl, hO89⟩
   replace hs55 := hs55.mono hk.gle; replace hs85 := hs85.mono hk.gle
   replace hsil := hsil.mono hk.gle
   refine wdNext hGd rfl kpNil (Tk.nil _) ?_
   refine wdAll [30] (by kernel_rfl) rfl ⟨wd1 rfl ?_, trivial⟩
   intro hGd
   refine wlOn rfl rfl ?_
   obtain ⟨G, hg92, hC, hB, hs91⟩ := Ow.freeze' (bl := [(b2, 37, (((digN ((2 : UInt8))))).cells), (b1, 37, (((digN ((1 : UInt8))))).cells)]) (r := []) hO89 hC (Nat.le_refl _) hB (Nat.le_trans (by decide) (by decide : (32 : Nat) ≤ maxL))
   replace hs55 := hs55.mono hg92; replace hs85 := hs85.mono hg92
   replace hsil := hsil.mono hg92
   refine wlCallS hC hB rfl co33 rfl rfl (RetS.cast (stands_ret _ _ hC.holds _ (((pI aw10.f (aw10.low + 1) 8))) hs91 _ ([(Stand.mk 3 (((digN ((1 : UInt8))))) 0)]) hs85) (congrArg Value.bool cl7_154)) ?_; intro w hk hC hB
   refine wdNext hGd rfl kpNil (Tk.nil _) ?_
   refine D_ 31 rfl rfl (fun _ => opPickT rfl rfl) <| D_ 32 rfl rfl (fun _ => opMove rfl) <| DG_ 33 rfl rfl rfl rfl (fun _ => opMove rfl) <| EG_ 35 rfl rfl rfl rfl (opLoadRow (cs := (((digN ((1 : UInt8))))).cells) rfl (hB.range (i := 1) (m := 32) rfl (by simp [cl_])) row37 (by simp [cl_])) <| DG_ 36 rfl rfl rfl rfl (fun _ => (B_ (ps := [(0, .const (.int .i64 3)), (1, .tmp 109)]) (cs := ((.int .i64 3) :: ((((digN ((1 : UInt8))))).cells ++ ((.int .i64 0) :: [])))) so44 zero44 rfl rfl)) <| EG_ 37 rfl rfl rfl rfl (opLoadRow (cs := (((digN ((2 : UInt8))))).cells) rfl (hB.range (i := 0) (m := 32) rfl (by simp [cl_])) row37 (by simp [cl_])) <| DG_ 38 rfl rfl rfl rfl (fun _ => (B_ (ps := [(0, .const (.int .i64 3)), (1, .tmp 111), (2, .const (.int .i64 1))]) (cs := ((.int .i64 3) :: ((((digN ((2 : UInt8))))).cells ++ ((.int .i64 1) :: [])))) so44 zero44 rfl rfl)) ?_
   refine wdAll [34, 39] (by kernel_rfl) rfl ⟨wd1 rfl ?_, wd1 rfl ?_, trivial⟩
   ·
    intro hGd
    refine wlOn rfl rfl ?_
    refine wlCallO (bl := [(b2, 37, (((digN ((2 : UInt8))))).cells), (b1, 37, (((digN ((1 : UInt8))))).cells)]) (r := []) hC hB rfl co19 rfl rfl (RetO.lend hC (fun _ _ _ _ ⟨A, cap, e, h⟩ => ⟨A, cap, e, h.any (fun _ _ _ _ h => h)⟩) (fun G_ hg_ hh_ hL_ => q_ret _ _ hh_ b5 O54 aw10 (fun y hy => hL_ y (List.mem_append_left _ hy)) (hs55.mono hg_) hok56.low (fun k t h => Nat.le_trans (hok56.q4 k t h) (by decide)))) ?_; rintro v97 G o95 w hk hC hB ⟨A93, cap94, rfl, hO96⟩
    replace hs55 := hs55.mono hk.gle
    replace hsil := hsil.mono hk.gle
    refine wdNext hGd rfl (kpKeep rfl (kpKeep rfl kpNil)) (Tk.cons (p := (_, fun w => OpVal _ _ _ w _ _)) (opLoadRow (cs := (((digN ((2 : UInt8))))).cells) rfl (hB.range (i := 0) (m := 32) rfl (by simp [cl_])) row37 (by simp [cl_])) (Tk.cons (p := (_, fun w => OpVal _ _ _ w _ _)) (opLoadRow (cs := (((digN ((1 : UInt8))))).cells) rfl (hB.range (i := 1) (m := 32) rfl (by simp [cl_])) row37 (by simp [cl_])) (Tk.nil _))) ?_
    refine wdAll [39] (by kernel_rfl) rfl ⟨wd1 rfl ?_, trivial⟩
    intro hGd
    refine wlOn rfl rfl ?_
    refine wlBuildSlice (α := Stand) (ps := [(0, .tmp 110), (1, .tmp 112)]) (xs := [(Stand.mk 3 (((digN ((1 : UInt8))))) 0), (Stand.mk 3 (((digN ((2 : UInt8))))) 1)]) (rows := [((.int .i64 3) :: ((((digN ((1 : UInt8))))).cells ++ ((.int .i64 0) :: []))), ((.int .i64 3) :: ((((digN ((2 : UInt8))))).cells ++ ((.int .i64 1) :: [])))]) elo38 rfl rfl hC hB rfl rfl rfl ⟨rfl, rfl, trivial⟩ rfl ?_; intro b98 G w hk hC hB hs99
    replace hs55 := hs55.mono hk.gle; replace hO96 := hO96.mono hk.gle
    replace hsil := hsil.mono hk.gle
    refine wdNext hGd rfl (kpDrop rfl (kpDrop rfl kpNil)) (Tk.nil _) ?_
    refine wdAll [40] (by kernel_rfl) rfl ⟨wd1 rfl ?_, trivial⟩
    intro hGd
    refine wlOn rfl rfl ?_
    obtain ⟨G, hg101, hC, hB, hs100⟩ := Ow.freeze' (bl := [(b2, 37, (((digN ((2 : UInt8))))).cells), (b1, 37, (((digN ((1 : UInt8))))).cells)]) (r := []) hO96 hC (Nat.le_refl _) hB (Nat.le_trans (by decide) (by decide : (32 : Nat) ≤ maxL))
    replace hs55 := hs55.mono hg101; replace hs99 := hs99.mono hg101
    replace hsil := hsil.mono hg101
    refine wlCallS hC hB rfl co33 rfl rfl (RetS.cast (stands_ret _ _ hC.holds _ (((qI aw10.f (aw10.low + 1) 8))) hs100 _ ([(Stand.mk 3 (((digN ((1 : UInt8))))) 0), (Stand.mk 3 (((digN ((2 : UInt8))))) 1)]) hs99) (congrArg Value.bool cl7_155)) ?_; intro w hk hC hB
    refine wdNext hGd rfl kpNil (Tk.nil _) ?_
    refine D_ 41 rfl rfl (fun _ => opPickT rfl rfl) <| D_ 42 rfl rfl (fun _ => opAssign rfl) <| wdDone (by kernel_rfl) <| wcOf <| wcRet ?_
    exact r1_ hQ rfl rfl (endS hC hw rfl)
   ·
    intro hGd
    refine wlOn rfl rfl ?_
    refine wlBuildSlice (α := Stand) (ps := [(0, .tmp 110), (1, .tmp 112)]) (xs := [(Stand.mk 3 (((digN ((1 : UInt8))))) 0), (Stand.mk 3 (((digN ((2 : UInt8))))) 1)]) (rows := [((.int .i64 3) :: ((((digN ((1 : UInt8))))).cells ++ ((.int .i64 0) :: []))), ((.int .i64 3) :: ((((digN ((2 : UInt8))))).cells ++ ((.int .i64 1) :: [])))]) elo38 rfl rfl hC hB rfl rfl rfl ⟨rfl, rfl, trivial⟩ rfl ?_; intro b102 G w hk hC hB hs103
    replace hs55 := hs55.mono hk.gle
    replace hsil := hsil.mono hk.gle
    refine wdNext hGd rfl (kpDrop rfl (kpDrop rfl kpNil)) (Tk.nil _) ?_
    refine wdAll [34] (by kernel_rfl) rfl ⟨wd1 rfl ?_, trivial⟩
    intro hGd
    refine wlOn rfl rfl ?_
    refine wlCallO (bl := [(b2, 37, (((digN ((2 : UInt8))))).cells), (b1, 37, (((digN ((1 : UInt8))))).cells)]) (r := []) hC hB rfl co19 rfl rfl (RetO.lend hC (fun _ _ _ _ ⟨A, cap, e, h⟩ => ⟨A, cap, e, h.any (fun _ _ _ _ h => h)⟩) (fun G_ hg_ hh_ hL_ => q_ret _ _ hh_ b5 O54 aw10 (fun y hy => hL_ y (List.mem_append_left _ hy)) (hs55.mono hg_) hok56.low (fun k t h => Nat.le_trans (hok56.q4 k t h) (by decide)))) ?_; rintro v108 G o106 w hk hC hB ⟨A104, cap105, rfl, hO107⟩
    replace hs103 := hs103.mono hk.gle
    replace hsil := hsil.mono hk.gle
    refine wdNext hGd rfl kpNil (Tk.nil _) ?_
    refine wdAll [40] (by kernel_rfl) rfl ⟨wd1 rfl ?_, trivial⟩
    intro hGd
    refine wlOn rfl rfl ?_
    obtain ⟨G, hg110, hC, hB, hs109⟩ := Ow.freeze' (bl := [(b2, 37, (((digN ((2 : UInt8))))).cells), (b1, 37, (((digN ((1 : UInt8))))).cells)]) (r := []) hO107 hC (Nat.le_refl _) hB (Nat.le_trans (by decide) (by decide : (32 : Nat) ≤ maxL))
    replace hs103 := hs103.mono hg110
    replace hsil := hsil.mono hg110
    refine wlCallS hC hB rfl co33 rfl rfl (RetS.cast (stands_ret _ _ hC.holds _ (((qI aw10.f (aw10.low + 1) 8))) hs109 _ ([(Stand.mk 3 (((digN ((1 : UInt8))))) 0), (Stand.mk 3 (((digN ((2 : UInt8))))) 1)]) hs103) (congrArg Value.bool cl7_156)) ?_; intro w hk hC hB
    refine wdNext hGd rfl kpNil (Tk.nil _) ?_
    refine D_ 41 rfl rfl (fun _ => opPickT rfl rfl) <| D_ 42 rfl rfl (fun _ => opAssign rfl) <| wdDone (by kernel_rfl) <| wcOf <| wcRet ?_
    exact r1_ hQ rfl rfl (endS hC hw rfl)
 ·
  intro hGd
  refine wlOn rfl rfl ?_
  refine wlBuildSlice (α := Stand) (ps := [(0, .tmp 48)]) (xs := [(Stand.mk 3 (((digN ((1 : UInt8))))) 0)]) (rows := [((.int .i64 3) :: ((((digN ((1 : UInt8))))).cells ++ ((.int .i64 0) :: [])))]) elo38 rfl rfl hC hB rfl rfl rfl ⟨rfl, trivial⟩ rfl ?_; intro b111 G w hk hC hB hs112
  replace hs18 := hs18.mono hk.gle
  replace hsil := hsil.mono hk.gle
  refine wdNext hGd rfl (kpDrop rfl kpNil) (Tk.nil _) ?_
  refine wdAll [19] (by kernel_rfl) rfl ⟨wd1 rfl ?_, trivial⟩
  intro hGd
  refine wlOn rfl rfl ?_
  refine wlCallO (bl := [(b2, 37, (((digN ((2 : UInt8))))).cells), (b1, 37, (((digN ((1 : UInt8))))).cells)]) (r := []) hC hB rfl co18 rfl rfl (RetO.lend hC (fun _ _ _ _ ⟨A, cap, e, h⟩ => ⟨A, cap, e, h.any (fun _ _ _ _ h => h)⟩) (fun G_ hg_ hh_ hL_ => p_ret _ _ hh_ b5 O17 aw3 (fun y hy => hL_ y (List.mem_append_left _ hy)) (hs18.mono hg_) (hsil.mono hg_) hok19.low)) ?_; rintro v117 G o115 w hk hC hB ⟨A113, cap114, rfl, hO116⟩
  replace hs18 := hs18.mono hk.gle; replace hs112 := hs112.mono hk.gle
  replace hsil := hsil.mono hk.gle
  refine wdNext hGd rfl kpNil (Tk.nil _) ?_
  refine wdAll [23] (by kernel_rfl) rfl ⟨wd1 rfl ?_, trivial⟩
  intro hGd
  refine wlOn rfl rfl ?_
  obtain ⟨G, hg119, hC, hB, hs118⟩ := Ow.freeze' (bl := [(b2, 37, (((digN ((2 : UInt8))))).cells), (b1, 37, (((digN ((1 : UInt8))))).cells)]) (r := []) hO116 hC (Nat.le_refl _) hB (Nat.le_trans (by decide) (by decide : (32 : Nat) ≤ maxL))
  replace hs18 := hs18.mono hg119; replace hs112 := hs112.mono hg119
  replace hsil := hsil.mono hg119
  refine wlCallS hC hB rfl co33 rfl rfl (RetS.cast (stands_ret _ _ hC.holds _ (((pI aw3.f (aw3.low + 1) 8))) hs118 _ ([(Stand.mk 3 (((digN ((1 : UInt8))))) 0)]) hs112) (congrArg Value.bool cl7_157)) ?_; intro w hk hC hB
  refine wdNext hGd rfl kpNil (Tk.nil _) ?_
  refine DG_ 24 rfl rfl rfl rfl (fun _ => opNot rfl) <| D_ 25 rfl rfl (fun _ => opPickF rfl rfl) <| D_ 26 rfl rfl (fun _ => opMove rfl) <| DG_ 27 rfl rfl rfl rfl (fun _ => opMove rfl) <| EG_ 28 rfl rfl rfl rfl (opLoadRow (cs := (((digN ((1 : UInt8))))).cells) rfl (hB.range (i := 1) (m := 32) rfl (by simp [cl_])) row37 (by simp [cl_])) ?_
  refine wdAll [29] (by kernel_rfl) rfl ⟨wd1 rfl ?_, trivial⟩
  intro hGd
  refine wlOn rfl rfl ?_
  refine wlCallC (O := O17) (B := []) hC hB rfl co14 rfl rfl (prepare_ret _ _ hC.holds b5 O17 aw3 hC.chunkHeld hC.chunkNd hs18 1 0 3 (((digN ((1 : UInt8))))) hsil) ?_; rintro v120 G O121 w hg hC hB ⟨hs122, rfl⟩
  replace hsil := hsil.mono hg
  have hok123 : SlOk aw11 := (SlOk.prep hok19)
  refine wdNext hGd rfl (kpDrop rfl kpNil) (Tk.nil _) ?_
  refine DG_ 30 rfl rfl rfl rfl (fun _ => (OpVal.cast (opNeq rfl rfl) (congrArg Value.bool cl7_158))) <| D_ 31 rfl rfl (fun _ => opPickF rfl rfl) <| wdDone (by kernel_rfl) <| wcOf <| wcCondF rfl <| wcSkip <| wcOf ?_
  refine wcSeq (wcSeq (wcRegion ?_))
  refine A_ rfl <| wlThen <| wcBlock ?_
  refine wcLoop 5 ?_
  refine wrSucc ?_
  refine wcSeq (wcSeq (wcRegion ?_))
  refine M_ rfl <| V_ (opLss rfl rfl) <| wlThen <| wcCondT rfl <| wcSkip <| wcOf <| wcSeq ?_
  refine wcBlock (wcSeq (wcRegion ?_))
  refine M_ rfl ?_
  refine wlCallS hC hB rfl co17 rfl rfl (RetS.cast (RetS.lend hC (fun G_ hg_ hh_ hL_ => committed_ret _ _ hh_ b5 O121 aw11 (fun y hy => hL_ y (List.mem_append_left _ hy)) (hs122.mono hg_) 3 (hsil.mono hg_))) (congrArg Value.bool cl7_159)) ?_; intro w hk hC hB
  refine M_ rfl <| wlOn rfl rfl <| M_ rfl <| wlOn rfl rfl <| M_ rfl <| wlOn rfl rfl <| V_ (opLoadRow (cs := (((digN ((1 : UInt8))))).cells) rfl (hB.range (i := 1) (m := 32) rfl (by simp [cl_])) row37 (by simp [cl_])) <| wlOn rfl rfl ?_
  refine wlCallC (O := O121) (B := []) hC hB rfl co15 rfl rfl (commit_ret _ _ hC.holds b5 O121 aw11 hC.chunkHeld hC.chunkNd hs122 1 0 3 (((digN ((1 : UInt8)))))) ?_; rintro v124 G O125 w hg hC hB ⟨hs126, rfl⟩
  replace hsil := hsil.mono hg
  have hok127 : SlOk aw12 := (SlOk.hear hok123)
  refine wlOn rfl rfl <| V_ (OpVal.cast (opNeq rfl rfl) (congrArg Value.bool cl7_160)) <| V_ (opPickF rfl rfl) <| wlThen <| wcCondF rfl <| wcSkip <| wcOf <| wcRegion <| M_ rfl <| V_ (OpVal.cast (v' := .int .i64 2) (opAdd rfl rfl) (congrArg (Value.int .i64) (by decide))) <| A_ rfl <| wlRound <| wrSucc ?_
  refine wcSeq (wcSeq (wcRegion ?_))
  refine M_ rfl <| V_ (opLss rfl rfl) <| wlThen <| wcCondT rfl <| wcSkip <| wcOf <| wcSeq ?_
  refine wcBlock (wcSeq (wcRegion ?_))
  refine M_ rfl ?_
  refine wlCallS hC hB rfl co17 rfl rfl (RetS.cast (RetS.lend hC (fun G_ hg_ hh_ hL_ => committed_ret _ _ hh_ b5 O125 aw12 (fun y hy => hL_ y (List.mem_append_left _ hy)) (hs126.mono hg_) 3 (hsil.mono hg_))) (congrArg Value.bool cl7_161)) ?_; intro w hk hC hB
  refine M_ rfl <| wlOn rfl rfl <| M_ rfl <| wlOn rfl rfl <| M_ rfl <| wlOn rfl rfl <| V_ (opLoadRow (cs := (((digN ((1 : UInt8))))).cells) rfl (hB.range (i := 1) (m := 32) rfl (by simp [cl_])) row37 (by simp [cl_])) <| wlOn rfl rfl ?_
  refine wlCallC (O := O125) (B := []) hC hB rfl co15 rfl rfl (commit_ret _ _ hC.holds b5 O125 aw12 hC.chunkHeld hC.chunkNd hs126 2 0 3 (((digN ((1 : UInt8)))))) ?_; rintro v128 G O129 w hg hC hB ⟨hs130, rfl⟩
  replace hsil := hsil.mono hg
  have hok131 : SlOk aw13 := (SlOk.hear hok127)
  refine wlOn rfl rfl <| V_ (OpVal.cast (opNeq rfl rfl) (congrArg Value.bool cl7_162)) <| V_ (opPickF rfl rfl) <| wlThen <| wcCondF rfl <| wcSkip <| wcOf <| wcRegion <| M_ rfl <| V_ (OpVal.cast (v' := .int .i64 3) (opAdd rfl rfl) (congrArg (Value.int .i64) (by decide))) <| A_ rfl <| wlRound <| wrSucc ?_
  refine wcSeq (wcSeq (wcRegion ?_))
  refine M_ rfl <| V_ (opLss rfl rfl) <| wlThen <| wcCondT rfl <| wcSkip <| wcOf <| wcSeq ?_
  refine wcBlock (wcSeq (wcRegion ?_))
  refine M_ rfl ?_
  refine wlCallS hC hB rfl co17 rfl rfl (RetS.cast (RetS.lend hC (fun G_ hg_ hh_ hL_ => committed_ret _ _ hh_ b5 O129 aw13 (fun y hy => hL_ y (List.mem_append_left _ hy)) (hs130.mono hg_) 3 (hsil.mono hg_))) (congrArg Value.bool cl7_163)) ?_; intro w hk hC hB
  refine M_ rfl <| wlOn rfl rfl <| M_ rfl <| wlOn rfl rfl <| M_ rfl <| wlOn rfl rfl <| V_ (opLoadRow (cs := (((digN ((1 : UInt8))))).cells) rfl (hB.range (i := 1) (m := 32) rfl (by simp [cl_])) row37 (by simp [cl_])) <| wlOn rfl rfl ?_
  refine wlCallC (O := O129) (B := []) hC hB rfl co15 rfl rfl (commit_ret _ _ hC.holds b5 O129 aw13 hC.chunkHeld hC.chunkNd hs130 3 0 3 (((digN ((1 : UInt8)))))) ?_; rintro v132 G O133 w hg hC hB ⟨hs134, rfl⟩
  replace hsil := hsil.mono hg
  have hok135 : SlOk aw14 := (SlOk.hear hok131)
  refine wlOn rfl rfl <| V_ (OpVal.cast (opNeq rfl rfl) (congrArg Value.bool cl7_164)) <| V_ (opPickF rfl rfl) <| wlThen <| wcCondF rfl <| wcSkip <| wcOf <| wcRegion <| M_ rfl <| V_ (OpVal.cast (v' := .int .i64 4) (opAdd rfl rfl) (congrArg (Value.int .i64) (by decide))) <| A_ rfl <| wlRound <| wrSucc ?_
  refine wcSeq (wcSeq (wcRegion ?_))
  refine M_ rfl <| V_ (opLss rfl rfl) <| wlThen <| wcCondF rfl <| wcExit <| wcOf <| wcSeq <| wcRegion <| M_ rfl ?_
  refine wlCallS hC hB rfl co17 rfl rfl (RetS.cast (RetS.lend hC (fun G_ hg_ hh_ hL_ => committed_ret _ _ hh_ b5 O133 aw14 (fun y hy => hL_ y (List.mem_append_left _ hy)) (hs134.mono hg_) 3 (hsil.mono hg_))) (congrArg Value.bool cl7_165)) ?_; intro w hk hC hB
  refine A_ rfl <| wlThen <| wcSeq ?_
  refine wcDrawS 43 [0, 1, 3, 3, 15, 31, 63, 127, 255, 255, 1023, 2047, 4095, 8191, 16383, 16383, 65535, 131071, 262143, 524287, 1048575, 2097151, 4194303, 8388607, 16777215, 33554431, 67108863, 33554431, 167772159, 436207615, 1073741823, 2147483647, 4294967295, 8589934591, 17179869183, 8589934591, 42949672959, 8589934591, 146028888063, 523986010111, 1099511627775, 2199023255551, 4398046511103] fmix (by kernel_rfl) (by kernel_rfl) rfl hC hB ?_; intro w hC hB
  refine D_ 0 rfl rfl (fun _ => opMove rfl) <| D_ 1 rfl rfl (fun _ => opMove rfl) <| DG_ 2 rfl rfl rfl rfl (fun _ => opMove rfl) <| EG_ 3 rfl rfl rfl rfl (opLoadRow (cs := (((digN ((2 : UInt8))))).cells) rfl (hB.range (i := 0) (m := 32) rfl (by simp [cl_])) row37 (by simp [cl_])) ?_
  refine wdAll [4] (by kernel_rfl) rfl ⟨wd1 rfl ?_, trivial⟩
  intro hGd
  refine wlOn rfl rfl ?_
  refine wlCallC (O := O133) (B := []) hC hB rfl co13 rfl rfl (propose_ret _ _ hC.holds b5 O133 aw14 hC.chunkHeld hC.chunkNd hs134 0 3 (((digN ((2 : UInt8))))) hsil hok135) ?_; rintro v136 G O137 w hg hC hB ⟨hs138, rfl⟩
  replace hsil := hsil.mono hg
  have hok139 : SlOk aw15 := (SlOk.prop hok135)
  refine wdNext hGd rfl (kpDrop rfl kpNil) (Tk.nil _) ?_
  refine DG_ 5 rfl rfl rfl rfl (fun _ => (OpVal.cast (opEql rfl rfl) (congrArg Value.bool cl7_166))) <| D_ 6 rfl rfl (fun _ => opPickT rfl rfl) <| D_ 7 rfl rfl (fun _ => opMove rfl) <| DG_ 8 rfl rfl rfl rfl (fun _ => opMove rfl) <| EG_ 9 rfl rfl rfl rfl (opLoadRow (cs := (((digN ((1 : UInt8))))).cells) rfl (hB.range (i := 1) (m := 32) rfl (by simp [cl_])) row37 (by simp [cl_])) ?_
  refine wdAll [10] (by kernel_rfl) rfl ⟨wd1 rfl ?_, trivial⟩
  intro hGd
  refine wlOn rfl rfl ?_
  refine wlCallC (O := O137) (B := []) hC hB rfl co13 rfl rfl (propose_ret _ _ hC.holds b5 O137 aw15 hC.chunkHeld hC.chunkNd hs138 0 9 (((digN ((1 : UInt8))))) hsil hok139) ?_; rintro v140 G O141 w hg hC hB ⟨hs142, rfl⟩
  replace hsil := hsil.mono hg
  have hok143 : SlOk aw16 := (SlOk.prop hok139)
  refine wdNext hGd rfl (kpDrop rfl kpNil) (Tk.nil _) ?_
  refine DG_ 11 rfl rfl rfl rfl (fun _ => (OpVal.cast (opEql rfl rfl) (congrArg Value.bool cl7_167))) <| D_ 12 rfl rfl (fun _ => opPickT rfl rfl) <| D_ 13 rfl rfl (fun _ => opMove rfl) <| DG_ 14 rfl rfl rfl rfl (fun _ => opMove rfl) <| EG_ 15 rfl rfl rfl rfl (opLoadRow (cs := (((digN ((2 : UInt8))))).cells) rfl (hB.range (i := 0) (m := 32) rfl (by simp [cl_])) row37 (by simp [cl_])) ?_
  refine wdAll [16] (by kernel_rfl) rfl ⟨wd1 rfl ?_, trivial⟩
  intro hGd
  refine wlOn rfl rfl ?_
  refine wlCallC (O := O141) (B := []) hC hB rfl co13 rfl rfl (propose_ret _ _ hC.holds b5 O141 aw16 hC.chunkHeld hC.chunkNd hs142 1 3 (((digN ((2 : UInt8))))) hsil hok143) ?_; rintro v144 G O145 w hg hC hB ⟨hs146, rfl⟩
  replace hsil := hsil.mono hg
  have hok147 : SlOk aw17 := (SlOk.prop hok143)
  refine wdNext hGd rfl (kpDrop rfl kpNil) (Tk.nil _) ?_
  refine DG_ 17 rfl rfl rfl rfl (fun _ => (OpVal.cast (opEql rfl rfl) (congrArg Value.bool cl7_168))) <| D_ 18 rfl rfl (fun _ => opPickT rfl rfl) <| D_ 19 rfl rfl (fun _ => opMove rfl) <| DG_ 20 rfl rfl rfl rfl (fun _ => opMove rfl) ?_
  refine wdAll [21] (by kernel_rfl) rfl ⟨wd1 rfl ?_, trivial⟩
  intro hGd
  refine wlOn rfl rfl ?_
  refine wlCallS hC hB rfl co16 rfl rfl (RetS.cast (RetS.lend hC (fun G_ hg_ hh_ hL_ => prepared_ret _ _ hh_ b5 O145 aw17 (fun y hy => hL_ y (List.mem_append_left _ hy)) (hs146.mono hg_) 3 (hsil.mono hg_))) (congrArg Value.bool cl7_169)) ?_; intro w hk hC hB
  refine wdNext hGd rfl kpNil (Tk.nil _) ?_
  refine DG_ 22 rfl rfl rfl rfl (fun _ => opNot rfl) <| D_ 23 rfl rfl (fun _ => opPickT rfl rfl) <| D_ 24 rfl rfl (fun _ => opMove rfl) <| DG_ 25 rfl rfl rfl rfl (fun _ => opMove rfl) <| EG_ 27 rfl rfl rfl rfl (opLoadRow (cs := (((digN ((1 : UInt8))))).cells) rfl (hB.range (i := 1) (m := 32) rfl (by simp [cl_])) row37 (by simp [cl_])) <| DG_ 28 rfl rfl rfl rfl (fun _ => (B_ (ps := [(0, .const (.int .i64 3)), (1, .tmp 101)]) (cs := ((.int .i64 3) :: ((((digN ((1 : UInt8))))).cells ++ ((.int .i64 0) :: [])))) so44 zero44 rfl rfl)) ?_
  refine wdAll [26, 29] (by kernel_rfl) rfl ⟨wd1 rfl ?_, wd1 rfl ?_, trivial⟩
  ·
   intro hGd
   refine wlOn rfl rfl ?_
   refine wlCallO (bl := [(b2, 37, (((digN ((2 : UInt8))))).cells), (b1, 37, (((digN ((1 : UInt8))))).cells)]) (r := []) hC hB rfl co18 rfl rfl (RetO.lend hC (fun _ _ _ _ ⟨A, cap, e, h⟩ => ⟨A, cap, e, h.any (fun _ _ _ _ h => h)⟩) (fun G_ hg_ hh_ hL_ => p_ret _ _ hh_ b5 O145 aw17 (fun y hy => hL_ y (List.mem_append_left _ hy)) (hs146.mono hg_) (hsil.mono hg_) hok147.low)) ?_; rintro v152 G o150 w hk hC hB ⟨A148, cap149, rfl, hO151⟩
   replace hs146 := hs146.mono hk.gle
   replace hsil := hsil.mono hk.gle
   refine wdNext hGd rfl (kpKeep rfl kpNil) (Tk.cons (p := (_, fun w => OpVal _ _ _ w _ _)) (opLoadRow (cs := (((digN ((1 : UInt8))))).cells) rfl (hB.range (i := 1) (m := 32) rfl (by simp [cl_])) row37 (by simp [cl_])) (Tk.nil _)) ?_
   refine wdAll [29] (by kernel_rfl) rfl ⟨wd1 rfl ?_, trivial⟩
   intro hGd
   refine wlOn rfl rfl ?_
   refine wlBuildSlice (α := Stand) (ps := [(0, .tmp 102)]) (xs := [(Stand.mk 3 (((digN ((1 : UInt8))))) 0)]) (rows := [((.int .i64 3) :: ((((digN ((1 : UInt8))))).cells ++ ((.int .i64 0) :: [])))]) elo38 rfl rfl hC hB rfl rfl rfl ⟨rfl, trivial⟩ rfl ?_; intro b153 G w hk hC hB hs154
   replace hs146 := hs146.mono hk.gle; replace hO151 := hO151.mono hk.gle
   replace hsil := hsil.mono hk.gle
   refine wdNext hGd rfl (kpDrop rfl kpNil) (Tk.nil _) ?_
   refine wdAll [30] (by kernel_rfl) rfl ⟨wd1 rfl ?_, trivial⟩
   intro hGd
   refine wlOn rfl rfl ?_
   obtain ⟨G, hg156, hC, hB, hs155⟩ := Ow.freeze' (bl := [(b2, 37, (((digN ((2 : UInt8))))).cells), (b1, 37, (((digN ((1 : UInt8))))).cells)]) (r := []) hO151 hC (Nat.le_refl _) hB (Nat.le_trans (by decide) (by decide : (32 : Nat) ≤ maxL))
   replace hs146 := hs146.mono hg156; replace hs154 := hs154.mono hg156
   replace hsil := hsil.mono hg156
   refine wlCallS hC hB rfl co33 rfl rfl (RetS.cast (stands_ret _ _ hC.holds _ (((pI aw17.f (aw17.low + 1) 8))) hs155 _ ([(Stand.mk 3 (((digN ((1 : UInt8))))) 0)]) hs154) (congrArg Value.bool cl7_170)) ?_; intro w hk hC hB
   refine wdNext hGd rfl kpNil (Tk.nil _) ?_
   refine D_ 31 rfl rfl (fun _ => opPickT rfl rfl) <| D_ 32 rfl rfl (fun _ => opMove rfl) <| DG_ 33 rfl rfl rfl rfl (fun _ => opMove rfl) <| EG_ 35 rfl rfl rfl rfl (opLoadRow (cs := (((digN ((1 : UInt8))))).cells) rfl (hB.range (i := 1) (m := 32) rfl (by simp [cl_])) row37 (by simp [cl_])) <| DG_ 36 rfl rfl rfl rfl (fun _ => (B_ (ps := [(0, .const (.int .i64 3)), (1, .tmp 109)]) (cs := ((.int .i64 3) :: ((((digN ((1 : UInt8))))).cells ++ ((.int .i64 0) :: [])))) so44 zero44 rfl rfl)) <| EG_ 37 rfl rfl rfl rfl (opLoadRow (cs := (((digN ((2 : UInt8))))).cells) rfl (hB.range (i := 0) (m := 32) rfl (by simp [cl_])) row37 (by simp [cl_])) <| DG_ 38 rfl rfl rfl rfl (fun _ => (B_ (ps := [(0, .const (.int .i64 3)), (1, .tmp 111), (2, .const (.int .i64 1))]) (cs := ((.int .i64 3) :: ((((digN ((2 : UInt8))))).cells ++ ((.int .i64 1) :: [])))) so44 zero44 rfl rfl)) ?_
   refine wdAll [34, 39] (by kernel_rfl) rfl ⟨wd1 rfl ?_, wd1 rfl ?_, trivial⟩
   ·
    intro hGd
    refine wlOn rfl rfl ?_
    refine wlCallO (bl := [(b2, 37, (((digN ((2 : UInt8))))).cells), (b1, 37, (((digN ((1 : UInt8))))).cells)]) (r := []) hC hB rfl co19 rfl rfl (RetO.lend hC (fun _ _ _ _ ⟨A, cap, e, h⟩ => ⟨A, cap, e, h.any (fun _ _ _ _ h => h)⟩) (fun G_ hg_ hh_ hL_ => q_ret _ _ hh_ b5 O145 aw17 (fun y hy => hL_ y (List.mem_append_left _ hy)) (hs146.mono hg_) hok147.low (fun k t h => Nat.le_trans (hok147.q4 k t h) (by decide)))) ?_; rintro v161 G o159 w hk hC hB ⟨A157, cap158, rfl, hO160⟩
    replace hs146 := hs146.mono hk.gle
    replace hsil := hsil.mono hk.gle
    refine wdNext hGd rfl (kpKeep rfl (kpKeep rfl kpNil)) (Tk.cons (p := (_, fun w => OpVal _ _ _ w _ _)) (opLoadRow (cs := (((digN ((2 : UInt8))))).cells) rfl (hB.range (i := 0) (m := 32) rfl (by simp [cl_])) row37 (by simp [cl_])) (Tk.cons (p := (_, fun w => OpVal _ _ _ w _ _)) (opLoadRow (cs := (((digN ((1 : UInt8))))).cells) rfl (hB.range (i := 1) (m := 32) rfl (by simp [cl_])) row37 (by simp [cl_])) (Tk.nil _))) ?_
    refine wdAll [39] (by kernel_rfl) rfl ⟨wd1 rfl ?_, trivial⟩
    intro hGd
    refine wlOn rfl rfl ?_
    refine wlBuildSlice (α := Stand) (ps := [(0, .tmp 110), (1, .tmp 112)]) (xs := [(Stand.mk 3 (((digN ((1 : UInt8))))) 0), (Stand.mk 3 (((digN ((2 : UInt8))))) 1)]) (rows := [((.int .i64 3) :: ((((digN ((1 : UInt8))))).cells ++ ((.int .i64 0) :: []))), ((.int .i64 3) :: ((((digN ((2 : UInt8))))).cells ++ ((.int .i64 1) :: [])))]) elo38 rfl rfl hC hB rfl rfl rfl ⟨rfl, rfl, trivial⟩ rfl ?_; intro b162 G w hk hC hB hs163
    replace hs146 := hs146.mono hk.gle; replace hO160 := hO160.mono hk.gle
    replace hsil := hsil.mono hk.gle
    refine wdNext hGd rfl (kpDrop rfl (kpDrop rfl kpNil)) (Tk.nil _) ?_
    refine wdAll [40] (by kernel_rfl) rfl ⟨wd1 rfl ?_, trivial⟩
    intro hGd
    refine wlOn rfl rfl ?_
    obtain ⟨G, hg165, hC, hB, hs164⟩ := Ow.freeze' (bl := [(b2, 37, (((digN ((2 : UInt8))))).cells), (b1, 37, (((digN ((1 : UInt8))))).cells)]) (r := []) hO160 hC (Nat.le_refl _) hB (Nat.le_trans (by decide) (by decide : (32 : Nat) ≤ maxL))
    replace hs146 := hs146.mono hg165; replace hs163 := hs163.mono hg165
    replace hsil := hsil.mono hg165
    refine wlCallS hC hB rfl co33 rfl rfl (RetS.cast (stands_ret _ _ hC.holds _ (((qI aw17.f (aw17.low + 1) 8))) hs164 _ ([(Stand.mk 3 (((digN ((1 : UInt8))))) 0), (Stand.mk 3 (((digN ((2 : UInt8))))) 1)]) hs163) (congrArg Value.bool cl7_171)) ?_; intro w hk hC hB
    refine wdNext hGd rfl kpNil (Tk.nil _) ?_
    refine D_ 41 rfl rfl (fun _ => opPickT rfl rfl) <| D_ 42 rfl rfl (fun _ => opAssign rfl) <| wdDone (by kernel_rfl) <| wcOf <| wcRet ?_
    exact r1_ hQ rfl rfl (endS hC hw rfl)
   ·
    intro hGd
    refine wlOn rfl rfl ?_
    refine wlBuildSlice (α := Stand) (ps := [(0, .tmp 110), (1, .tmp 112)]) (xs := [(Stand.mk 3 (((digN ((1 : UInt8))))) 0), (Stand.mk 3 (((digN ((2 : UInt8))))) 1)]) (rows := [((.int .i64 3) :: ((((digN ((1 : UInt8))))).cells ++ ((.int .i64 0) :: []))), ((.int .i64 3) :: ((((digN ((2 : UInt8))))).cells ++ ((.int .i64 1) :: [])))]) elo38 rfl rfl hC hB rfl rfl rfl ⟨rfl, rfl, trivial⟩ rfl ?_; intro b166 G w hk hC hB hs167
    replace hs146 := hs146.mono hk.gle
    replace hsil := hsil.mono hk.gle
    refine wdNext hGd rfl (kpDrop rfl (kpDrop rfl kpNil)) (Tk.nil _) ?_
    refine wdAll [34] (by kernel_rfl) rfl ⟨wd1 rfl ?_, trivial⟩
    intro hGd
    refine wlOn rfl rfl ?_
    refine wlCallO (bl := [(b2, 37, (((digN ((2 : UInt8))))).cells), (b1, 37, (((digN ((1 : UInt8))))).cells)]) (r := []) hC hB rfl co19 rfl rfl (RetO.lend hC (fun _ _ _ _ ⟨A, cap, e, h⟩ => ⟨A, cap, e, h.any (fun _ _ _ _ h => h)⟩) (fun G_ hg_ hh_ hL_ => q_ret _ _ hh_ b5 O145 aw17 (fun y hy => hL_ y (List.mem_append_left _ hy)) (hs146.mono hg_) hok147.low (fun k t h => Nat.le_trans (hok147.q4 k t h) (by decide)))) ?_; rintro v172 G o170 w hk hC hB ⟨A168, cap169, rfl, hO171⟩
    replace hs146 := hs146.mono hk.gle; replace hs167 := hs167.mono hk.gle
    replace hsil := hsil.mono hk.gle
    refine wdNext hGd rfl kpNil (Tk.nil _) ?_
    refine wdAll [40] (by kernel_rfl) rfl ⟨wd1 rfl ?_, trivial⟩
    intro hGd
    refine wlOn rfl rfl ?_
    obtain ⟨G, hg174, hC, hB, hs173⟩ := Ow.freeze' (bl := [(b2, 37, (((digN ((2 : UInt8))))).cells), (b1, 37, (((digN ((1 : UInt8))))).cells)]) (r := []) hO171 hC (Nat.le_refl _) hB (Nat.le_trans (by decide) (by decide : (32 : Nat) ≤ maxL))
    replace hs146 := hs146.mono hg174; replace hs167 := hs167.mono hg174
    replace hsil := hsil.mono hg174
    refine wlCallS hC hB rfl co33 rfl rfl (RetS.cast (stands_ret _ _ hC.holds _ (((qI aw17.f (aw17.low + 1) 8))) hs173 _ ([(Stand.mk 3 (((digN ((1 : UInt8))))) 0), (Stand.mk 3 (((digN ((2 : UInt8))))) 1)]) hs167) (congrArg Value.bool cl7_172)) ?_; intro w hk hC hB
    refine wdNext hGd rfl kpNil (Tk.nil _) ?_
    refine D_ 41 rfl rfl (fun _ => opPickT rfl rfl) <| D_ 42 rfl rfl (fun _ => opAssign rfl) <| wdDone (by kernel_rfl) <| wcOf <| wcRet ?_
    exact r1_ hQ rfl rfl (endS hC hw rfl)
  ·
   intro hGd
   refine wlOn rfl rfl ?_
   refine wlBuildSlice (α := Stand) (ps := [(0, .tmp 102)]) (xs := [(Stand.mk 3 (((digN ((1 : UInt8))))) 0)]) (rows := [((.int .i64 3) :: ((((digN ((1 : UInt8))))).cells ++ ((.int .i64 0) :: [])))]) elo38 rfl rfl hC hB rfl rfl rfl ⟨rfl, trivial⟩ rfl ?_; intro b175 G w hk hC hB hs176
   replace hs146 := hs146.mono hk.gle
   replace hsil := hsil.mono hk.gle
   refine wdNext hGd rfl (kpDrop rfl kpNil) (Tk.nil _) ?_
   refine wdAll [26] (by kernel_rfl) rfl ⟨wd1 rfl ?_, trivial⟩
   intro hGd
   refine wlOn rfl rfl ?_
   refine wlCallO (bl := [(b2, 37, (((digN ((2 : UInt8))))).cells), (b1, 37, (((digN ((1 : UInt8))))).cells)]) (r := []) hC hB rfl co18 rfl rfl (RetO.lend hC (fun _ _ _ _ ⟨A, cap, e, h⟩ => ⟨A, cap, e, h.any (fun _ _ _ _ h => h)⟩) (fun G_ hg_ hh_ hL_ => p_ret _ _ hh_ b5 O145 aw17 (fun y hy => hL_ y (List.mem_append_left _ hy)) (hs146.mono hg_) (hsil.mono hg_) hok147.low)) ?_; rintro v181 G o179 w hk hC hB ⟨A177, cap178, rfl, hO180⟩
   replace hs146 := hs146.mono hk.gle; replace hs176 := hs176.mono hk.gle
   refine wdNext hGd rfl kpNil (Tk.nil _) ?_
   refine wdAll [30] (by kernel_rfl) rfl ⟨wd1 rfl ?_, trivial⟩
   intro hGd
   refine wlOn rfl rfl ?_
   obtain ⟨G, hg183, hC, hB, hs182⟩ := Ow.freeze' (bl := [(b2, 37, (((digN ((2 : UInt8))))).cells), (b1, 37, (((digN ((1 : UInt8))))).cells)]) (r := []) hO180 hC (Nat.le_refl _) hB (Nat.le_trans (by decide) (by decide : (32 : Nat) ≤ maxL))
   replace hs146 := hs146.mono hg183; replace hs176 := hs176.mono hg183
   refine wlCallS hC hB rfl co33 rfl rfl (RetS.cast (stands_ret _ _ hC.holds _ (((pI aw17.f (aw17.low + 1) 8))) hs182 _ ([(Stand.mk 3 (((digN ((1 : UInt8))))) 0)]) hs176) (congrArg Value.bool cl7_173)) ?_; intro w hk hC hB
   refine wdNext hGd rfl kpNil (Tk.nil _) ?_
   refine D_ 31 rfl rfl (fun _ => opPickT rfl rfl) <| D_ 32 rfl rfl (fun _ => opMove rfl) <| DG_ 33 rfl rfl rfl rfl (fun _ => opMove rfl) <| EG_ 35 rfl rfl rfl rfl (opLoadRow (cs := (((digN ((1 : UInt8))))).cells) rfl (hB.range (i := 1) (m := 32) rfl (by simp [cl_])) row37 (by simp [cl_])) <| DG_ 36 rfl rfl rfl rfl (fun _ => (B_ (ps := [(0, .const (.int .i64 3)), (1, .tmp 109)]) (cs := ((.int .i64 3) :: ((((digN ((1 : UInt8))))).cells ++ ((.int .i64 0) :: [])))) so44 zero44 rfl rfl)) <| EG_ 37 rfl rfl rfl rfl (opLoadRow (cs := (((digN ((2 : UInt8))))).cells) rfl (hB.range (i := 0) (m := 32) rfl (by simp [cl_])) row37 (by simp [cl_])) <| DG_ 38 rfl rfl rfl rfl (fun _ => (B_ (ps := [(0, .const (.int .i64 3)), (1, .tmp 111), (2, .const (.int .i64 1))]) (cs := ((.int .i64 3) :: ((((digN ((2 : UInt8))))).cells ++ ((.int .i64 1) :: [])))) so44 zero44 rfl rfl)) ?_
   refine wdAll [34, 39] (by kernel_rfl) rfl ⟨wd1 rfl ?_, wd1 rfl ?_, trivial⟩
   ·
    intro hGd
    refine wlOn rfl rfl ?_
    refine wlCallO (bl := [(b2, 37, (((digN ((2 : UInt8))))).cells), (b1, 37, (((digN ((1 : UInt8))))).cells)]) (r := []) hC hB rfl co19 rfl rfl (RetO.lend hC (fun _ _ _ _ ⟨A, cap, e, h⟩ => ⟨A, cap, e, h.any (fun _ _ _ _ h => h)⟩) (fun G_ hg_ hh_ hL_ => q_ret _ _ hh_ b5 O145 aw17 (fun y hy => hL_ y (List.mem_append_left _ hy)) (hs146.mono hg_) hok147.low (fun k t h => Nat.le_trans (hok147.q4 k t h) (by decide)))) ?_; rintro v188 G o186 w hk hC hB ⟨A184, cap185, rfl, hO187⟩
    replace hs146 := hs146.mono hk.gle
    refine wdNext hGd rfl (kpKeep rfl (kpKeep rfl kpNil)) (Tk.cons (p := (_, fun w => OpVal _ _ _ w _ _)) (opLoadRow (cs := (((digN ((2 : UInt8))))).cells) rfl (hB.range (i := 0) (m := 32) rfl (by simp [cl_])) row37 (by simp [cl_])) (Tk.cons (p := (_, fun w => OpVal _ _ _ w _ _)) (opLoadRow (cs := (((digN ((1 : UInt8))))).cells) rfl (hB.range (i := 1) (m := 32) rfl (by simp [cl_])) row37 (by simp [cl_])) (Tk.nil _))) ?_
    refine wdAll [39] (by kernel_rfl) rfl ⟨wd1 rfl ?_, trivial⟩
    intro hGd
    refine wlOn rfl rfl ?_
    refine wlBuildSlice (α := Stand) (ps := [(0, .tmp 110), (1, .tmp 112)]) (xs := [(Stand.mk 3 (((digN ((1 : UInt8))))) 0), (Stand.mk 3 (((digN ((2 : UInt8))))) 1)]) (rows := [((.int .i64 3) :: ((((digN ((1 : UInt8))))).cells ++ ((.int .i64 0) :: []))), ((.int .i64 3) :: ((((digN ((2 : UInt8))))).cells ++ ((.int .i64 1) :: [])))]) elo38 rfl rfl hC hB rfl rfl rfl ⟨rfl, rfl, trivial⟩ rfl ?_; intro b189 G w hk hC hB hs190
    replace hs146 := hs146.mono hk.gle; replace hO187 := hO187.mono hk.gle
    refine wdNext hGd rfl (kpDrop rfl (kpDrop rfl kpNil)) (Tk.nil _) ?_
    refine wdAll [40] (by kernel_rfl) rfl ⟨wd1 rfl ?_, trivial⟩
    intro hGd
    refine wlOn rfl rfl ?_
    obtain ⟨G, hg192, hC, hB, hs191⟩ := Ow.freeze' (bl := [(b2, 37, (((digN ((2 : UInt8))))).cells), (b1, 37, (((digN ((1 : UInt8))))).cells)]) (r := []) hO187 hC (Nat.le_refl _) hB (Nat.le_trans (by decide) (by decide : (32 : Nat) ≤ maxL))
    replace hs146 := hs146.mono hg192; replace hs190 := hs190.mono hg192
    refine wlCallS hC hB rfl co33 rfl rfl (RetS.cast (stands_ret _ _ hC.holds _ (((qI aw17.f (aw17.low + 1) 8))) hs191 _ ([(Stand.mk 3 (((digN ((1 : UInt8))))) 0), (Stand.mk 3 (((digN ((2 : UInt8))))) 1)]) hs190) (congrArg Value.bool cl7_174)) ?_; intro w hk hC hB
    refine wdNext hGd rfl kpNil (Tk.nil _) ?_
    refine D_ 41 rfl rfl (fun _ => opPickT rfl rfl) <| D_ 42 rfl rfl (fun _ => opAssign rfl) <| wdDone (by kernel_rfl) <| wcOf <| wcRet ?_
    exact r1_ hQ rfl rfl (endS hC hw rfl)
   ·
    intro hGd
    refine wlOn rfl rfl ?_
    refine wlBuildSlice (α := Stand) (ps := [(0, .tmp 110), (1, .tmp 112)]) (xs := [(Stand.mk 3 (((digN ((1 : UInt8))))) 0), (Stand.mk 3 (((digN ((2 : UInt8))))) 1)]) (rows := [((.int .i64 3) :: ((((digN ((1 : UInt8))))).cells ++ ((.int .i64 0) :: []))), ((.int .i64 3) :: ((((digN ((2 : UInt8))))).cells ++ ((.int .i64 1) :: [])))]) elo38 rfl rfl hC hB rfl rfl rfl ⟨rfl, rfl, trivial⟩ rfl ?_; intro b193 G w hk hC hB hs194
    replace hs146 := hs146.mono hk.gle
    refine wdNext hGd rfl (kpDrop rfl (kpDrop rfl kpNil)) (Tk.nil _) ?_
    refine wdAll [34] (by kernel_rfl) rfl ⟨wd1 rfl ?_, trivial⟩
    intro hGd
    refine wlOn rfl rfl ?_
    refine wlCallO (bl := [(b2, 37, (((digN ((2 : UInt8))))).cells), (b1, 37, (((digN ((1 : UInt8))))).cells)]) (r := []) hC hB rfl co19 rfl rfl (RetO.lend hC (fun _ _ _ _ ⟨A, cap, e, h⟩ => ⟨A, cap, e, h.any (fun _ _ _ _ h => h)⟩) (fun G_ hg_ hh_ hL_ => q_ret _ _ hh_ b5 O145 aw17 (fun y hy => hL_ y (List.mem_append_left _ hy)) (hs146.mono hg_) hok147.low (fun k t h => Nat.le_trans (hok147.q4 k t h) (by decide)))) ?_; rintro v199 G o197 w hk hC hB ⟨A195, cap196, rfl, hO198⟩
    replace hs194 := hs194.mono hk.gle
    refine wdNext hGd rfl kpNil (Tk.nil _) ?_
    refine wdAll [40] (by kernel_rfl) rfl ⟨wd1 rfl ?_, trivial⟩
    intro hGd
    refine wlOn rfl rfl ?_
    obtain ⟨G, hg201, hC, hB, hs200⟩ := Ow.freeze' (bl := [(b2, 37, (((digN ((2 : UInt8))))).cells), (b1, 37, (((digN ((1 : UInt8))))).cells)]) (r := []) hO198 hC (Nat.le_refl _) hB (Nat.le_trans (by decide) (by decide : (32 : Nat) ≤ maxL))
    replace hs194 := hs194.mono hg201
    refine wlCallS hC hB rfl co33 rfl rfl (RetS.cast (stands_ret _ _ hC.holds _ (((qI aw17.f (aw17.low + 1) 8))) hs200 _ ([(Stand.mk 3 (((digN ((1 : UInt8))))) 0), (Stand.mk 3 (((digN ((2 : UInt8))))) 1)]) hs194) (congrArg Value.bool cl7_175)) ?_; intro w hk hC hB
    refine wdNext hGd rfl kpNil (Tk.nil _) ?_
    refine D_ 41 rfl rfl (fun _ => opPickT rfl rfl) <| D_ 42 rfl rfl (fun _ => opAssign rfl) <| wdDone (by kernel_rfl) <| wcOf <| wcRet ?_
    exact r1_ hQ rfl rfl (endS hC hw rfl)

end Go.Proofs.YtljcgggflgbenaaGreatDoor
