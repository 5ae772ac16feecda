/- A row of the slots seat, and its card. No condition. -/
import Derived.Test.YtljcgggflgbenaaDoorGxOpen
import Derived.Test.YtljcgggflgbenaaDoorSlG9
import Derived.Test.YtljcgggflgbenaaDoorTie
import Derived.Test.YtljcgggflgbenaaDoorCards
import Derived.ChangeSame
import Derived.ChangeVars
import Derived.JoinedOf
import Derived.LaidLaws
import Derived.LaidHandle
import Derived.SevenTiedAt
set_option linter.all false
namespace Go.Proofs.YtljcgggflgbenaaDoor
open Go Go.Gx Go.RowKit Go.ChangeShapes Go.WideShapes Go.ChangeAt
theorem gsil : Tryd.prog.globalNamed "bastide/slots.silence" = some 0 := by kernel_rfl
theorem gsilT : (Tryd.prog.globals[0]?).map (·.type) = some 63 := by kernel_rfl
theorem fsil : fieldsOf Tryd.prog 63 [(3, 0), (38, 1)] = true := by kernel_rfl
theorem usilI : Tryd.prog.underlying 3 = some (.int .i64) := by kernel_rfl
theorem usilD : Tryd.prog.underlying 38 = some (.array 32 5) := by kernel_rfl
theorem usilB : Tryd.prog.underlying 5 = some (.int .u8) := by kernel_rfl
theorem csilI : Tryd.prog.cellsOf 3 = 1 := by kernel_rfl
theorem csilD : Tryd.prog.cellsOf 38 = 32 := by kernel_rfl
theorem csilB : Tryd.prog.cellsOf 5 = 1 := by kernel_rfl
theorem csilW : Tryd.prog.cellsOf 63 = 33 := by kernel_rfl
set_option maxRecDepth 100000 in
theorem sil_cells {W : World} {cs : List Value} {fuel : Nat} {p : List MemPlace} (h : DataW.trod (fun _ => ()) Tryd.prog W 0 (fun _ => true) false fuel 63 cs = some (Rows.laid_bastide_slots_silence, p)) : cs = silence.cells := by
  have hf := fsil
  unfold fieldsOf at hf
  split at hf
  · rename_i fs hu
    have hf := eq_of_beq hf
    obtain ⟨xs, n, _, hx, hl, hxl, hg⟩ := DataW.trod_struct hu h
    injection hx with hx _
    rw [csilW] at hl
    have hfl : fs.toList.length = 2 := by have := congrArg List.length hf; simpa using this
    match hfs : fs.toList, hfl with
    | [a, b], _ =>
      rw [hfs] at hf
      simp only [List.map_cons, List.map_nil, List.cons.injEq, Prod.mk.injEq, and_true] at hf
      obtain ⟨⟨a1, a2⟩, b1, b2⟩ := hf
      have hxl' : xs.length = 2 := by rw [hxl, ← Array.length_toList, hfs]; rfl
      match xs, hxl' with
      | [x, y], _ =>
        have g0 := hg 0 a (by rw [← Array.getElem?_toList, hfs]; rfl)
        have g1 := hg 1 b (by rw [← Array.getElem?_toList, hfs]; rfl)
        rw [a1, a2, csilI] at g0
        rw [b1, b2, csilD] at g1
        unfold Rows.laid_bastide_slots_silence at hx
        injection hx with hx
        simp only [List.map_cons, List.map_nil, List.cons.injEq, and_true] at hx
        obtain ⟨k, e0, e1, _⟩ := DataW.trod_int usilI g0
        obtain ⟨zs, m, _, z1, z2, z3, z4⟩ := DataW.trod_array usilD g1
        have hk : k = -1 := by
          have := hx.1; rw [e1] at this; simp only [DataW.lit.injEq, Lit.int.injEq, true_and] at this; exact this.symm
        have hz : zs.map (·.1) = List.replicate 32 (.lit (.int .u8 0)) := by
          have := hx.2; rw [z1] at this; simp only [DataW.agg.injEq] at this; exact this.symm
        have hb : ∀ i, i < 32 → cs[1 + i]? = some (.int .u8 0) := by
          intro i hi
          have h4 := z4 i hi
          rw [csilB] at h4
          have hzi : i < zs.length := by rw [z3]; exact hi
          rw [List.getElem?_eq_getElem hzi] at h4
          obtain ⟨q, q1, q2, _⟩ := DataW.trod_int usilB h4
          have : (zs.map (·.1))[i]? = some (DataW.lit (.int .u8 0)) := by rw [hz, List.getElem?_replicate, if_pos hi]
          rw [List.getElem?_map, List.getElem?_eq_getElem hzi] at this
          simp only [Option.map_some, Option.some.injEq] at this
          rw [q2] at this
          simp only [DataW.lit.injEq, Lit.int.injEq, true_and] at this
          subst this
          have := congrArg (·[0]?) q1
          simp only [Nat.mul_one, List.getElem?_take, List.getElem?_drop, List.drop_drop, List.drop_take] at this
          simpa [Nat.sub_pos_of_lt hi, hi] using this
        have h0 : cs[0]? = some (.int .i64 (-1)) := by
          have := congrArg (·[0]?) e0
          rw [hk] at this
          simpa [List.getElem?_take] using this
        apply List.ext_getElem?
        intro i
        rcases Nat.lt_or_ge i 33 with hi | hi
        · cases i with
          | zero => rw [h0]; rfl
          | succ i => rw [Nat.add_comm i 1, hb i (by omega)]; show _ = (Value.int .i64 (-1) :: (Dig.zero.cells ++ []))[1 + i]?; rw [Nat.add_comm 1 i, List.getElem?_cons_succ, List.append_nil]; show _ = (List.map _ (List.replicate 32 (0 : UInt8)))[i]?; rw [List.getElem?_map, List.getElem?_replicate, if_pos (by omega)]; rfl
        · rw [List.getElem?_eq_none (by omega), List.getElem?_eq_none (by rw [show silence.cells.length = 33 from rfl]; exact hi)]
  · cases hf
theorem hsil_of {W : World} (h : laidMetH Tryd.prog [("bastide/slots.silence", Rows.laid_bastide_slots_silence)] W) : RowG (hG W) 0 0 silence.cells := by
  have h' : laidMet Tryd.prog [("bastide/slots.silence", Rows.laid_bastide_slots_silence)] W := h
  obtain ⟨ps, ⟨g, t, cs, fuel, p, q, e1, e2, e3, e4, _⟩, _, _⟩ := h'
  obtain rfl : g = 0 := (Option.some.inj (gsil.symm.trans e1)).symm
  obtain rfl : t = 63 := (Option.some.inj (gsilT.symm.trans e2)).symm
  have e5 := sil_cells e4
  simp only [World.var?, gsil, Option.bind_some] at e3
  split at e3
  · rename_i c T fz hh
    injection e3 with e3
    subst e3
    exact ⟨c, T, fz, hh, fun j u hu => by rw [Nat.zero_add, ← Array.getElem?_toList, e5]; exact hu⟩
  · cases e3
noncomputable def laidWorld (os : Os) : World :=
  let w0 := World.holding Tryd.prog os ⟨#[], #[], []⟩
  { w0 with heap := w0.heap.modify 0 fun
      | .cells _ t frozen => .cells #[.int .i64 (-1), .int .u8 0, .int .u8 0, .int .u8 0, .int .u8 0, .int .u8 0, .int .u8 0, .int .u8 0, .int .u8 0, .int .u8 0, .int .u8 0, .int .u8 0, .int .u8 0, .int .u8 0, .int .u8 0, .int .u8 0, .int .u8 0, .int .u8 0, .int .u8 0, .int .u8 0, .int .u8 0, .int .u8 0, .int .u8 0, .int .u8 0, .int .u8 0, .int .u8 0, .int .u8 0, .int .u8 0, .int .u8 0, .int .u8 0, .int .u8 0, .int .u8 0, .int .u8 0] t frozen
      | o => o }
theorem laidWorld_met (os : Os) (args : Array Value) : laidMetH Tryd.prog [("bastide/slots.silence", Rows.laid_bastide_slots_silence)] ((laidWorld os).forCall (fun _ _ => 0) ⟨#[], args, []⟩).memory :=
  laidMetH_of_parts (laidMet_of_run' 8 (by kernel_rfl) (by kernel_rfl)) (by kernel_rfl)
theorem rui3 : Tryd.prog.underlying 3 = some (.int .i64) := by kernel_rfl
theorem opn3 : Opn Tryd.prog Int 3 := opnInt rui3
theorem rub4 : Tryd.prog.underlying 4 = some .bool := by kernel_rfl
theorem opn4 : Opn Tryd.prog Bool 4 := opnBool rub4
theorem rui5 : Tryd.prog.underlying 5 = some (.int .u8) := by kernel_rfl
theorem opn5 : Opn Tryd.prog UInt8 5 := opnU8 rui5
theorem ce3 : Tryd.prog.cellsOf 3 = 1 := by kernel_rfl
theorem ce4 : Tryd.prog.cellsOf 4 = 1 := by kernel_rfl
theorem ce5 : Tryd.prog.cellsOf 5 = 1 := by kernel_rfl
theorem ce27 : Tryd.prog.cellsOf 27 = 5 := by kernel_rfl
theorem rf27 : fieldsOf Tryd.prog 27 [(3, 0), (3, 1), (3, 2), (4, 3), (5, 4)] = true := by kernel_rfl
theorem opn27 : Opn Tryd.prog Word 27 := by
  intro H enc W sp fuel cs d ps hd hw
  obtain ⟨hl, ds, ha⟩ := opn_fields rf27 hd hw
  rw [ce27] at hl
  match ds, ha with
  | [d0, d1, d2, d3, d4], ⟨⟨f0, p0, h0⟩, w0, ⟨⟨f1, p1, h1⟩, w1, ⟨⟨f2, p2, h2⟩, w2, ⟨⟨f3, p3, h3⟩, w3, ⟨⟨f4, p4, h4⟩, w4, _⟩⟩⟩⟩⟩ =>
    obtain ⟨x0, e0⟩ := opn3 enc W sp f0 _ d0 p0 h0 w0
    rw [ce3] at e0
    have e0 : (cs.drop 0).take 1 = [.int .i64 x0] := e0
    obtain ⟨x1, e1⟩ := opn3 enc W sp f1 _ d1 p1 h1 w1
    rw [ce3] at e1
    have e1 : (cs.drop 1).take 1 = [.int .i64 x1] := e1
    obtain ⟨x2, e2⟩ := opn3 enc W sp f2 _ d2 p2 h2 w2
    rw [ce3] at e2
    have e2 : (cs.drop 2).take 1 = [.int .i64 x2] := e2
    obtain ⟨x3, e3⟩ := opn4 enc W sp f3 _ d3 p3 h3 w3
    rw [ce4] at e3
    have e3 : (cs.drop 3).take 1 = [.bool x3] := e3
    obtain ⟨x4, e4⟩ := opn5 enc W sp f4 _ d4 p4 h4 w4
    rw [ce5] at e4
    have e4 : (cs.drop 4).take 1 = [.int .u8 (x4.toNat : Int)] := e4
    have hcs : cs = ((cs.drop 0).take 1 ++ ((cs.drop 1).take 1 ++ ((cs.drop 2).take 1 ++ ((cs.drop 3).take 1 ++ ((cs.drop 4).take 1 ++ []))))) := segs_eq (cs := cs) (l := [1, 1, 1, 1, 1]) (by rw [hl]; exact Nat.le_refl _)
    rw [e0, e1, e2, e3, e4] at hcs
    exact ⟨⟨x0, x1, x2, x3, x4⟩, hcs.trans (by first | rfl | (simp [Word.cells]; done) | simp [Word.cells, Stand.cells, Wd.cells, Mark.cells])⟩
theorem rus22 : Tryd.prog.underlying 22 = some (.slice 27) := by kernel_rfl
theorem be27 : Tryd.prog.bytesOf 27 = 32 := by kernel_rfl
theorem opn22 : Opn Tryd.prog (List Word) 22 := opnSlice rus22 (by rw [ce27]; rfl) (by decide) (by rw [be27]; decide) opn27
theorem rus23 : Tryd.prog.underlying 23 = some (.slice 5) := by kernel_rfl
theorem be5 : Tryd.prog.bytesOf 5 = 1 := by kernel_rfl
theorem opn23 : Opn Tryd.prog (List UInt8) 23 := opnSlice rus23 (by rw [ce5]; rfl) (by decide) (by rw [be5]; decide) opn5
theorem rown : ownKnob Tryd.prog.godebug = none := by kernel_rfl
theorem rlaid : laidOutB Tryd.prog = true := by kernel_rfl
theorem rbool : Tryd.prog.underlying 4 = some .bool := by kernel_rfl
set_option maxRecDepth 100000 in
theorem slotsBack_lifted (os : Os) (started : os.Started) (H : Type) (enc : TypeId × Value → H) :
    ReturnsInHanded {} Tryd.checked os 7 .any (fun w args => (Rows.slotsBackSpec.pre enc Tryd.prog Tryd.f7 [] false w args ∧ laidMetH Tryd.prog Rows.slotsBackRow.laid w) ∧ sizedMet enc Tryd.prog Tryd.f7 (OpenSpec.ofChange Rows.slotsBackSpec) false w args) (Rows.slotsBackSpec.post enc Tryd.prog Tryd.f7 false true false false) := by
  refine returnsInHanded_of_change_and (C := Tryd.checked) (X := (fun w _ => laidMetH Tryd.prog Rows.slotsBackRow.laid w)) (fun _ _ _ hh h => h.of_heap hh) rown started (by kernel_rfl) Tryd.func7
    (ChangeSpec.witness_at (enc := enc) (C := Tryd.checked) (os := os) (X := (fun w _ => laidMetH Tryd.prog Rows.slotsBackRow.laid w)) false (laidWorld os) #[.slice none 0 0, .slice none 0 0] 8 rfl (by kernel_rfl) (by kernel_rfl) (by kernel_rfl) (by kernel_rfl) (by kernel_rfl) (laidWorld_met os _)) ?_
  intro W base args ds gs before hval0 hW hcnd hsz0 hL _
  have hval : ∀ (j : Nat) t v, Tryd.f7.params[j]? = some t → args[j]? = some v → Value.okWide Tryd.prog W .any base t v := hval0
  have hsz : (DataW.weightsEach Tryd.prog (Tryd.f7.params.toList ++ Rows.slotsBackSpec.plain.varTypes Tryd.prog) (ds ++ gs)).all (· ≤ reachBytes) = true := hsz0
  have hW' := hW
  obtain ⟨p, q, hA0, hV, rfl, hfz, hnd⟩ := hW
  have hA : DataW.TrodAll enc Tryd.prog W 0 (fun _ => true) true Tryd.f7.params.toList args.toList ds p := hA0
  rw [Tryd.params7] at hA hval hsz
  obtain ⟨v0, vs0, d0, ds0, p0, q0, hargs, rfl, rfl, h0, r0⟩ := trodAll_cons hA
  obtain ⟨v1, vs1, d1, ds1, p1, q1, rfl, rfl, rfl, h1, r1⟩ := trodAll_cons r0
  obtain ⟨rfl, rfl, rfl⟩ := trodAll_nil r1
  obtain rfl : args = #[v0, v1] := by cases args; simp_all
  obtain ⟨rfl, rfl⟩ := trodVars_none hV
  have k0 := h0
  have lt0 : ∀ x ∈ p0, x.block < W.heap.size := by obtain ⟨m, hm⟩ := k0; exact DataW.trod_lt m _ _ _ hm
  obtain ⟨A0, n0, c0, rfl⟩ := okWide_slice rus22 (hval 0 22 v0 rfl rfl)
  obtain ⟨x0, i0⟩ : ∃ x : (List Word), Rp.Is (hG W) _ x := by
    obtain ⟨m, hm⟩ := h0
    exact opn22 enc W _ m _ d0 p0 hm (fun m hm => by have := List.all_eq_true.1 hsz m (DataW.weights_mem_each (j := 0) rfl rfl m hm); simpa using this)
  obtain ⟨u0, hu0, s0⟩ := i0
  obtain rfl : Value.slice A0 n0 c0 = u0 := by simpa [Value.cells] using hu0
  have k1 := h1
  have lt1 : ∀ x ∈ p1, x.block < W.heap.size := by obtain ⟨m, hm⟩ := k1; exact DataW.trod_lt m _ _ _ hm
  obtain ⟨A1, n1, c1, rfl⟩ := okWide_slice rus23 (hval 1 23 v1 rfl rfl)
  obtain ⟨x1, i1⟩ : ∃ x : (List UInt8), Rp.Is (hG W) _ x := by
    obtain ⟨m, hm⟩ := h1
    exact opn23 enc W _ m _ d1 p1 hm (fun m hm => by have := List.all_eq_true.1 hsz m (DataW.weights_mem_each (j := 1) rfl rfl m hm); simpa using this)
  obtain ⟨u1, hu1, s1⟩ := i1
  obtain rfl : Value.slice A1 n1 c1 = u1 := by simpa [Value.cells] using hu1
  clear hA0 hval0
  refine Calls.mono (back_ret (hG W) W (hG_holds W) _ x0 s0 _ x1 s1 (hsil_of hL)) fun e W' ⟨he, hk⟩ => ?_
  subst he
  have bel := hk.below
  exact ⟨_, rfl, _, _, _, [], _, [], hW', trodAll_mk1 (shut_bool rbool _), (trodAll_cons_mk (Below.trod rlaid (by kernel_rfl) (of_decide_eq_true (by kernel_rfl)) k0 bel lt0) (trodAll_cons_mk (Below.trod rlaid (by kernel_rfl) (of_decide_eq_true (by kernel_rfl)) k1 bel lt1) trodAll_mk0)), rfl, bel.frame _, fun h => by cases h⟩
/-- The statement. -/
theorem slotsBack_holds : Rows.SlotsBackSaid :=
  OpenClaim.holds_of_wide 7 Tryd.f7 rfl rfl rfl rfl rfl rfl rfl ⟨rfl, rfl, rfl, rfl, rfl⟩ rfl rfl rfl rfl rfl (by kernel_rfl) Tryd.func7 (by kernel_rfl)
    (of_decide_eq_true (by kernel_rfl)) (by unfold Func.isWrapper; first | (rw [if_pos (by decide +kernel)]; kernel_rfl) | (rw [if_neg (by decide +kernel)]; exact ⟨rfl, rfl⟩))
    (fun os started H enc _ => slotsBack_lifted os started H enc)
/-- The card. -/
theorem slotsBack_card : Rows.SlotsBackCardSaid :=
  Claim7.holds_tied_plain_at .later [] [.data] true (true, "ff47f8a9a487d43b21e22630cf0def356c8e0537c7acf46a9ceae73934cc0f5b") false
    slotsBack_holds (fun _ h => by cases h) (by kernel_rfl) (fun _ h => by cases h) slotsBack_row_tie rfl ⟨rfl, rfl⟩ (by kernel_rfl) rfl
    (fun f fn hf hfn => by
      obtain rfl : f = 7 := Option.some.inj ((show Tryd.prog.funcNamed "bastide/bastidelaw14.SlotsBack" = some 7 by kernel_rfl).symm.trans hf) |>.symm
      obtain rfl : fn = Tryd.f7 := (Option.some.inj (Tryd.func7.symm.trans hfn)).symm
      exact ⟨by kernel_rfl, fun j t ht => by
        rw [Tryd.params7] at ht
        match j with
        | 0 => simp at ht; subst ht; exact (show Tryd.prog.wantsStandIn 22 = false by kernel_rfl)
        | 1 => simp at ht; subst ht; exact (show Tryd.prog.wantsStandIn 23 = false by kernel_rfl)
        | j + 2 => simp at ht⟩)
    (by kernel_rfl)
#print axioms slotsBack_card
end Go.Proofs.YtljcgggflgbenaaDoor
