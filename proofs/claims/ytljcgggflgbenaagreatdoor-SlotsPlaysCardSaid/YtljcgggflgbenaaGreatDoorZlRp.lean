/- A row of the slots seat, and its card. No condition. -/
import Derived.Test.YtljcgggflgbenaaGreatDoorGxOpen
import Derived.Test.YtljcgggflgbenaaGreatDoorZlPlay
import Derived.Test.YtljcgggflgbenaaGreatDoorTie
import Derived.Test.YtljcgggflgbenaaGreatDoorCards
import Derived.ChangeSame
import Derived.ChangeVars
import Derived.JoinedOf
import Derived.LaidLaws
import Derived.LaidHandle
import Derived.SevenTiedAt
set_option linter.all false
namespace Go.Proofs.YtljcgggflgbenaaGreatDoor
open Go Go.Gx Go.RowKit Go.ChangeShapes Go.WideShapes Go.ChangeAt
theorem gsil : Tryz.prog.globalNamed "bastide/slots.silence" = some 0 := by kernel_rfl
theorem gsilT : (Tryz.prog.globals[0]?).map (·.type) = some 78 := by kernel_rfl
theorem fsil : fieldsOf Tryz.prog 78 [(3, 0), (37, 1)] = true := by kernel_rfl
theorem usilI : Tryz.prog.underlying 3 = some (.int .i64) := by kernel_rfl
theorem usilD : Tryz.prog.underlying 37 = some (.array 32 5) := by kernel_rfl
theorem usilB : Tryz.prog.underlying 5 = some (.int .u8) := by kernel_rfl
theorem csilI : Tryz.prog.cellsOf 3 = 1 := by kernel_rfl
theorem csilD : Tryz.prog.cellsOf 37 = 32 := by kernel_rfl
theorem csilB : Tryz.prog.cellsOf 5 = 1 := by kernel_rfl
theorem csilW : Tryz.prog.cellsOf 78 = 33 := by kernel_rfl
set_option maxRecDepth 100000 in
theorem sil_cells {W : World} {cs : List Value} {fuel : Nat} {p : List MemPlace} (h : DataW.trod (fun _ => ()) Tryz.prog W 0 (fun _ => true) false fuel 78 cs = some (Rows.laid_bastide_slots_silence, p)) : cs = silence.cells := by
  have hf := fsil
  unfold fieldsOf at hf
  split at hf
  · rename_i fs hu
    have hf := eq_of_beq hf
    obtain ⟨xs, n, _, hx, hl, hxl, hg⟩ := DataW.trod_struct hu h
    injection hx with hx _
    rw [csilW] at hl
    have hfl : fs.toList.length = 2 := by have := congrArg List.length hf; simpa using this
    match hfs : fs.toList, hfl with
    | [a, b], _ =>
      rw [hfs] at hf
      simp only [List.map_cons, List.map_nil, List.cons.injEq, Prod.mk.injEq, and_true] at hf
      obtain ⟨⟨a1, a2⟩, b1, b2⟩ := hf
      have hxl' : xs.length = 2 := by rw [hxl, ← Array.length_toList, hfs]; rfl
      match xs, hxl' with
      | [x, y], _ =>
        have g0 := hg 0 a (by rw [← Array.getElem?_toList, hfs]; rfl)
        have g1 := hg 1 b (by rw [← Array.getElem?_toList, hfs]; rfl)
        rw [a1, a2, csilI] at g0
        rw [b1, b2, csilD] at g1
        unfold Rows.laid_bastide_slots_silence at hx
        injection hx with hx
        simp only [List.map_cons, List.map_nil, List.cons.injEq, and_true] at hx
        obtain ⟨k, e0, e1, _⟩ := DataW.trod_int usilI g0
        obtain ⟨zs, m, _, z1, z2, z3, z4⟩ := DataW.trod_array usilD g1
        have hk : k = -1 := by
          have := hx.1; rw [e1] at this; simp only [DataW.lit.injEq, Lit.int.injEq, true_and] at this; exact this.symm
        have hz : zs.map (·.1) = List.replicate 32 (.lit (.int .u8 0)) := by
          have := hx.2; rw [z1] at this; simp only [DataW.agg.injEq] at this; exact this.symm
        have hb : ∀ i, i < 32 → cs[1 + i]? = some (.int .u8 0) := by
          intro i hi
          have h4 := z4 i hi
          rw [csilB] at h4
          have hzi : i < zs.length := by rw [z3]; exact hi
          rw [List.getElem?_eq_getElem hzi] at h4
          obtain ⟨q, q1, q2, _⟩ := DataW.trod_int usilB h4
          have : (zs.map (·.1))[i]? = some (DataW.lit (.int .u8 0)) := by rw [hz, List.getElem?_replicate, if_pos hi]
          rw [List.getElem?_map, List.getElem?_eq_getElem hzi] at this
          simp only [Option.map_some, Option.some.injEq] at this
          rw [q2] at this
          simp only [DataW.lit.injEq, Lit.int.injEq, true_and] at this
          subst this
          have := congrArg (·[0]?) q1
          simp only [Nat.mul_one, List.getElem?_take, List.getElem?_drop, List.drop_drop, List.drop_take] at this
          simpa [Nat.sub_pos_of_lt hi, hi] using this
        have h0 : cs[0]? = some (.int .i64 (-1)) := by
          have := congrArg (·[0]?) e0
          rw [hk] at this
          simpa [List.getElem?_take] using this
        apply List.ext_getElem?
        intro i
        rcases Nat.lt_or_ge i 33 with hi | hi
        · cases i with
          | zero => rw [h0]; rfl
          | succ i => rw [Nat.add_comm i 1, hb i (by omega)]; show _ = (Value.int .i64 (-1) :: (Dig.zero.cells ++ []))[1 + i]?; rw [Nat.add_comm 1 i, List.getElem?_cons_succ, List.append_nil]; show _ = (List.map _ (List.replicate 32 (0 : UInt8)))[i]?; rw [List.getElem?_map, List.getElem?_replicate, if_pos (by omega)]; rfl
        · rw [List.getElem?_eq_none (by omega), List.getElem?_eq_none (by rw [show silence.cells.length = 33 from rfl]; exact hi)]
  · cases hf
theorem hsil_of {W : World} (h : laidMetH Tryz.prog [("bastide/slots.silence", Rows.laid_bastide_slots_silence)] W) : RowG (hG W) 0 0 silence.cells := by
  have h' : laidMet Tryz.prog [("bastide/slots.silence", Rows.laid_bastide_slots_silence)] W := h
  obtain ⟨ps, ⟨g, t, cs, fuel, p, q, e1, e2, e3, e4, _⟩, _, _⟩ := h'
  obtain rfl : g = 0 := (Option.some.inj (gsil.symm.trans e1)).symm
  obtain rfl : t = 78 := (Option.some.inj (gsilT.symm.trans e2)).symm
  have e5 := sil_cells e4
  simp only [World.var?, gsil, Option.bind_some] at e3
  split at e3
  · rename_i c T fz hh
    injection e3 with e3
    subst e3
    exact ⟨c, T, fz, hh, fun j u hu => by rw [Nat.zero_add, ← Array.getElem?_toList, e5]; exact hu⟩
  · cases e3
noncomputable def laidWorld (os : Os) : World :=
  let w0 := World.holding Tryz.prog os ⟨#[], #[], []⟩
  { w0 with heap := w0.heap.modify 0 fun
      | .cells _ t frozen => .cells #[.int .i64 (-1), .int .u8 0, .int .u8 0, .int .u8 0, .int .u8 0, .int .u8 0, .int .u8 0, .int .u8 0, .int .u8 0, .int .u8 0, .int .u8 0, .int .u8 0, .int .u8 0, .int .u8 0, .int .u8 0, .int .u8 0, .int .u8 0, .int .u8 0, .int .u8 0, .int .u8 0, .int .u8 0, .int .u8 0, .int .u8 0, .int .u8 0, .int .u8 0, .int .u8 0, .int .u8 0, .int .u8 0, .int .u8 0, .int .u8 0, .int .u8 0, .int .u8 0, .int .u8 0] t frozen
      | o => o }
theorem laidWorld_met (os : Os) (args : Array Value) : laidMetH Tryz.prog [("bastide/slots.silence", Rows.laid_bastide_slots_silence)] ((laidWorld os).forCall (fun _ _ => 0) ⟨#[], args, []⟩).memory :=
  laidMetH_of_parts (laidMet_of_run' 8 (by kernel_rfl) (by kernel_rfl)) (by kernel_rfl)
theorem rui3 : Tryz.prog.underlying 3 = some (.int .i64) := by kernel_rfl
theorem opn3 : Opn Tryz.prog Int 3 := opnInt rui3
theorem rus22 : Tryz.prog.underlying 22 = some (.slice 3) := by kernel_rfl
theorem ce3 : Tryz.prog.cellsOf 3 = 1 := by kernel_rfl
theorem be3 : Tryz.prog.bytesOf 3 = 8 := by kernel_rfl
theorem opn22 : Opn Tryz.prog (List Int) 22 := opnSlice rus22 (by rw [ce3]; rfl) (by decide) (by rw [be3]; decide) opn3
theorem ce22 : Tryz.prog.cellsOf 22 = 1 := by kernel_rfl
theorem ce24 : Tryz.prog.cellsOf 24 = 2 := by kernel_rfl
theorem rf24 : fieldsOf Tryz.prog 24 [(3, 0), (22, 1)] = true := by kernel_rfl
theorem opn24 : Opn Tryz.prog Crew 24 := by
  intro H enc W sp fuel cs d ps hd hw
  obtain ⟨hl, ds, ha⟩ := opn_fields rf24 hd hw
  rw [ce24] at hl
  match ds, ha with
  | [d0, d1], ⟨⟨f0, p0, h0⟩, w0, ⟨⟨f1, p1, h1⟩, w1, _⟩⟩ =>
    obtain ⟨x0, e0⟩ := opn3 enc W sp f0 _ d0 p0 h0 w0
    rw [ce3] at e0
    have e0 : (cs.drop 0).take 1 = [.int .i64 x0] := e0
    obtain ⟨x1, e1⟩ := opn22 enc W sp f1 _ d1 p1 h1 w1
    rw [ce22] at e1
    obtain ⟨v1, e1, s1⟩ := e1
    have e1 : (cs.drop 1).take 1 = [v1] := e1
    have hcs : cs = ((cs.drop 0).take 1 ++ ((cs.drop 1).take 1 ++ [])) := segs_eq (cs := cs) (l := [1, 1]) (by rw [hl]; exact Nat.le_refl _)
    rw [e0, e1] at hcs
    exact ⟨⟨x0, x1⟩, v1, hcs.trans (by first | rfl | simp), s1⟩
theorem rua37 : Tryz.prog.underlying 37 = some (.array 32 5) := by kernel_rfl
theorem ce37 : Tryz.prog.cellsOf 37 = 32 := by kernel_rfl
theorem rui5 : Tryz.prog.underlying 5 = some (.int .u8) := by kernel_rfl
theorem ce5 : Tryz.prog.cellsOf 5 = 1 := by kernel_rfl
theorem opn37 : Opn Tryz.prog Dig 37 := opnDig rua37 rui5 ce37 ce5
theorem ce44 : Tryz.prog.cellsOf 44 = 34 := by kernel_rfl
theorem rf44 : fieldsOf Tryz.prog 44 [(3, 0), (37, 1), (3, 33)] = true := by kernel_rfl
theorem opn44 : Opn Tryz.prog StandI 44 := by
  intro H enc W sp fuel cs d ps hd hw
  obtain ⟨hl, ds, ha⟩ := opn_fields rf44 hd hw
  rw [ce44] at hl
  match ds, ha with
  | [d0, d1, d2], ⟨⟨f0, p0, h0⟩, w0, ⟨⟨f1, p1, h1⟩, w1, ⟨⟨f2, p2, h2⟩, w2, _⟩⟩⟩ =>
    obtain ⟨x0, e0, i0⟩ := trodI6 rui3 h0
    rw [ce3] at e0
    have e0 : (cs.drop 0).take 1 = [.int .i64 x0] := e0
    obtain ⟨x1, e1⟩ := opn37 enc W sp f1 _ d1 p1 h1 w1
    rw [ce37] at e1
    have e1 : (cs.drop 1).take 32 = x1.cells := e1
    obtain ⟨x2, e2⟩ := opn3 enc W sp f2 _ d2 p2 h2 w2
    rw [ce3] at e2
    have e2 : (cs.drop 33).take 1 = [.int .i64 x2] := e2
    have hcs : cs = ((cs.drop 0).take 1 ++ ((cs.drop 1).take 32 ++ ((cs.drop 33).take 1 ++ []))) := segs_eq (cs := cs) (l := [1, 32, 1]) (by rw [hl]; exact Nat.le_refl _)
    rw [e0, e1, e2] at hcs
    exact ⟨⟨⟨x0, x1, x2⟩, i0⟩, hcs.trans (by first | rfl | (simp [Stand.cells]; done) | simp [cl_])⟩
theorem rus38 : Tryz.prog.underlying 38 = some (.slice 44) := by kernel_rfl
theorem be44 : Tryz.prog.bytesOf 44 = 48 := by kernel_rfl
theorem opn38 : Opn Tryz.prog (List StandI) 38 := opnSlice rus38 (by rw [ce44]; rfl) (by decide) (by rw [be44]; decide) opn44
theorem ce38 : Tryz.prog.cellsOf 38 = 1 := by kernel_rfl
theorem ce40 : Tryz.prog.cellsOf 40 = 38 := by kernel_rfl
theorem rf40 : fieldsOf Tryz.prog 40 [(3, 0), (3, 1), (3, 2), (3, 3), (37, 4), (38, 36), (38, 37)] = true := by kernel_rfl
theorem opn40 : Opn Tryz.prog DoI 40 := by
  intro H enc W sp fuel cs d ps hd hw
  obtain ⟨hl, ds, ha⟩ := opn_fields rf40 hd hw
  rw [ce40] at hl
  match ds, ha with
  | [d0, d1, d2, d3, d4, d5, d6], ⟨⟨f0, p0, h0⟩, w0, ⟨⟨f1, p1, h1⟩, w1, ⟨⟨f2, p2, h2⟩, w2, ⟨⟨f3, p3, h3⟩, w3, ⟨⟨f4, p4, h4⟩, w4, ⟨⟨f5, p5, h5⟩, w5, ⟨⟨f6, p6, h6⟩, w6, _⟩⟩⟩⟩⟩⟩⟩ =>
    obtain ⟨x0, e0⟩ := opn3 enc W sp f0 _ d0 p0 h0 w0
    rw [ce3] at e0
    have e0 : (cs.drop 0).take 1 = [.int .i64 x0] := e0
    obtain ⟨x1, e1⟩ := opn3 enc W sp f1 _ d1 p1 h1 w1
    rw [ce3] at e1
    have e1 : (cs.drop 1).take 1 = [.int .i64 x1] := e1
    obtain ⟨x2, e2⟩ := opn3 enc W sp f2 _ d2 p2 h2 w2
    rw [ce3] at e2
    have e2 : (cs.drop 2).take 1 = [.int .i64 x2] := e2
    obtain ⟨x3, e3, i3⟩ := trodI6 rui3 h3
    rw [ce3] at e3
    have e3 : (cs.drop 3).take 1 = [.int .i64 x3] := e3
    obtain ⟨x4, e4⟩ := opn37 enc W sp f4 _ d4 p4 h4 w4
    rw [ce37] at e4
    have e4 : (cs.drop 4).take 32 = x4.cells := e4
    obtain ⟨x5, e5⟩ := opn38 enc W sp f5 _ d5 p5 h5 w5
    rw [ce38] at e5
    obtain ⟨v5, e5, s5⟩ := e5
    have e5 : (cs.drop 36).take 1 = [v5] := e5
    obtain ⟨x6, e6⟩ := opn38 enc W sp f6 _ d6 p6 h6 w6
    rw [ce38] at e6
    obtain ⟨v6, e6, s6⟩ := e6
    have e6 : (cs.drop 37).take 1 = [v6] := e6
    have hcs : cs = ((cs.drop 0).take 1 ++ ((cs.drop 1).take 1 ++ ((cs.drop 2).take 1 ++ ((cs.drop 3).take 1 ++ ((cs.drop 4).take 32 ++ ((cs.drop 36).take 1 ++ ((cs.drop 37).take 1 ++ []))))))) := segs_eq (cs := cs) (l := [1, 1, 1, 1, 32, 1, 1]) (by rw [hl]; exact Nat.le_refl _)
    rw [e0, e1, e2, e3, e4, e5, e6] at hcs
    exact ⟨⟨⟨x0, x1, x2, x3, x4, x5.map (·.1), x6.map (·.1)⟩, i3, allSt x5, allSt x6⟩, v5, v6, hcs.trans (by first | rfl | simp), slStand s5, slStand s6⟩
theorem rus25 : Tryz.prog.underlying 25 = some (.slice 40) := by kernel_rfl
theorem be40 : Tryz.prog.bytesOf 40 = 112 := by kernel_rfl
theorem opn25 : Opn Tryz.prog (List DoI) 25 := opnSlice rus25 (by rw [ce40]; rfl) (by decide) (by rw [be40]; decide) opn40
theorem rown : ownKnob Tryz.prog.godebug = none := by kernel_rfl
theorem rlaid : laidOutB Tryz.prog = true := by kernel_rfl
theorem rbool : Tryz.prog.underlying 4 = some .bool := by kernel_rfl
set_option maxRecDepth 100000 in
theorem slotsPlays_lifted (os : Os) (started : os.Started) (H : Type) (enc : TypeId × Value → H) :
    ReturnsInHanded {} Tryz.checked os 3 .any (fun w args => (Rows.slotsPlaysSpec.pre enc Tryz.prog Tryz.f3 [] false w args ∧ laidMetH Tryz.prog Rows.slotsPlaysRow.laid w) ∧ sizedMet enc Tryz.prog Tryz.f3 (OpenSpec.ofChange Rows.slotsPlaysSpec) false w args) (Rows.slotsPlaysSpec.post enc Tryz.prog Tryz.f3 false true false false) := by
  refine returnsInHanded_of_change_and (C := Tryz.checked) (X := (fun w _ => laidMetH Tryz.prog Rows.slotsPlaysRow.laid w)) (fun _ _ _ hh h => h.of_heap hh) rown started (by kernel_rfl) Tryz.func3
    (ChangeSpec.witness_at (enc := enc) (C := Tryz.checked) (os := os) (X := (fun w _ => laidMetH Tryz.prog Rows.slotsPlaysRow.laid w)) false (laidWorld os) #[.agg #[.int .i64 0, .slice none 0 0], .int .i64 0, .slice none 0 0] 8 rfl (by kernel_rfl) (by kernel_rfl) (by kernel_rfl) (by kernel_rfl) (by kernel_rfl) (laidWorld_met os _)) ?_
  intro W base args ds gs before hval0 hW hcnd hsz0 hL _
  have hval : ∀ (j : Nat) t v, Tryz.f3.params[j]? = some t → args[j]? = some v → Value.okWide Tryz.prog W .any base t v := hval0
  have hsz : (DataW.weightsEach Tryz.prog (Tryz.f3.params.toList ++ Rows.slotsPlaysSpec.plain.varTypes Tryz.prog) (ds ++ gs)).all (· ≤ reachBytes) = true := hsz0
  have hW' := hW
  obtain ⟨p, q, hA0, hV, rfl, hfz, hnd⟩ := hW
  have hA : DataW.TrodAll enc Tryz.prog W 0 (fun _ => true) true Tryz.f3.params.toList args.toList ds p := hA0
  rw [Tryz.params3] at hA hval hsz
  obtain ⟨v0, vs0, d0, ds0, p0, q0, hargs, rfl, rfl, h0, r0⟩ := trodAll_cons hA
  obtain ⟨v1, vs1, d1, ds1, p1, q1, rfl, rfl, rfl, h1, r1⟩ := trodAll_cons r0
  obtain ⟨v2, vs2, d2, ds2, p2, q2, rfl, rfl, rfl, h2, r2⟩ := trodAll_cons r1
  obtain ⟨rfl, rfl, rfl⟩ := trodAll_nil r2
  obtain rfl : args = #[v0, v1, v2] := by cases args; simp_all
  obtain ⟨rfl, rfl⟩ := trodVars_none hV
  have k0 := h0
  have lt0 : ∀ x ∈ p0, x.block < W.heap.size := by obtain ⟨m, hm⟩ := k0; exact DataW.trod_lt m _ _ _ hm
  obtain ⟨fs0, hfs0⟩ : ∃ fs, Tryz.prog.underlying 24 = some (.struct fs) := struct_of (by kernel_rfl)
  obtain ⟨cs0, rfl, _⟩ := okWide_struct hfs0 (hval 0 24 v0 rfl rfl)
  obtain ⟨x0, i0⟩ : ∃ x : Crew, Rp.Is (hG W) _ x := by
    obtain ⟨m, hm⟩ := h0
    exact opn24 enc W _ m _ d0 p0 hm (fun m hm => by have := List.all_eq_true.1 hsz m (DataW.weights_mem_each (j := 0) rfl rfl m hm); simpa using this)
  have k1 := h1
  have lt1 : ∀ x ∈ p1, x.block < W.heap.size := by obtain ⟨m, hm⟩ := k1; exact DataW.trod_lt m _ _ _ hm
  obtain ⟨a1, rfl⟩ := okWide_int rui3 (hval 1 3 v1 rfl rfl)
  have k2 := h2
  have lt2 : ∀ x ∈ p2, x.block < W.heap.size := by obtain ⟨m, hm⟩ := k2; exact DataW.trod_lt m _ _ _ hm
  obtain ⟨A2, n2, c2, rfl⟩ := okWide_slice rus25 (hval 2 25 v2 rfl rfl)
  obtain ⟨x2, i2⟩ : ∃ x : (List DoI), Rp.Is (hG W) _ x := by
    obtain ⟨m, hm⟩ := h2
    exact opn25 enc W _ m _ d2 p2 hm (fun m hm => by have := List.all_eq_true.1 hsz m (DataW.weights_mem_each (j := 2) rfl rfl m hm); simpa using this)
  obtain ⟨u2, hu2, s2⟩ := i2
  obtain rfl : Value.slice A2 n2 c2 = u2 := by simpa [Value.cells] using hu2
  clear hA0 hval0
  refine Calls.mono (plays_ret (hG W) W (hG_holds W) _ x0 i0 a1 _ (x2.map (·.1)) (slDo s2) (hsil_of hL) (allDo x2)) fun e W' ⟨he, hk⟩ => ?_
  subst he
  have bel := hk.below
  exact ⟨_, rfl, _, _, _, [], _, [], hW', trodAll_mk1 (shut_bool rbool _), (trodAll_cons_mk (Below.trod rlaid (by kernel_rfl) (of_decide_eq_true (by kernel_rfl)) k0 bel lt0) (trodAll_cons_mk (Below.trod rlaid (by kernel_rfl) (of_decide_eq_true (by kernel_rfl)) k1 bel lt1) (trodAll_cons_mk (Below.trod rlaid (by kernel_rfl) (of_decide_eq_true (by kernel_rfl)) k2 bel lt2) trodAll_mk0))), rfl, bel.frame _, fun h => by cases h⟩
/-- The statement. -/
theorem slotsPlays_holds : Rows.SlotsPlaysSaid :=
  OpenClaim.holds_of_wide 3 Tryz.f3 rfl rfl rfl rfl rfl rfl rfl ⟨rfl, rfl, rfl, rfl, rfl⟩ rfl rfl rfl rfl rfl (by kernel_rfl) Tryz.func3 (by kernel_rfl)
    (of_decide_eq_true (by kernel_rfl)) (by unfold Func.isWrapper; first | (rw [if_pos (by decide +kernel)]; kernel_rfl) | (rw [if_neg (by decide +kernel)]; exact ⟨rfl, rfl⟩))
    (fun os started H enc _ => slotsPlays_lifted os started H enc)
/-- The card. -/
theorem slotsPlays_card : Rows.SlotsPlaysCardSaid :=
  Claim7.holds_tied_plain_at .later [] [.data] true (true, "448e5aa54332cb6917bd3dcbf6a55d9a2bc7e591732aca8380d5a09d67a0d348") false
    slotsPlays_holds (fun _ h => by cases h) (by kernel_rfl) (fun _ h => by cases h) slotsPlays_row_tie rfl ⟨rfl, rfl⟩ (by kernel_rfl) rfl
    (fun f fn hf hfn => by
      obtain rfl : f = 3 := Option.some.inj ((show Tryz.prog.funcNamed "bastide/bastidelaw14.SlotsPlays" = some 3 by kernel_rfl).symm.trans hf) |>.symm
      obtain rfl : fn = Tryz.f3 := (Option.some.inj (Tryz.func3.symm.trans hfn)).symm
      exact ⟨by kernel_rfl, fun j t ht => by
        rw [Tryz.params3] at ht
        match j with
        | 0 => simp at ht; subst ht; exact (show Tryz.prog.wantsStandIn 24 = false by kernel_rfl)
        | 1 => simp at ht; subst ht; exact (show Tryz.prog.wantsStandIn 3 = false by kernel_rfl)
        | 2 => simp at ht; subst ht; exact (show Tryz.prog.wantsStandIn 25 = false by kernel_rfl)
        | j + 3 => simp at ht⟩)
    (by kernel_rfl)
#print axioms slotsPlays_card
end Go.Proofs.YtljcgggflgbenaaGreatDoor
