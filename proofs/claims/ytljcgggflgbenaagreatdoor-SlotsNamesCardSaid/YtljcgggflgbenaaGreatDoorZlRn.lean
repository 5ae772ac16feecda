/- A row of the slots seat, and its card. No condition. -/
import Derived.Test.YtljcgggflgbenaaGreatDoorGxThree
import Derived.Test.YtljcgggflgbenaaGreatDoorZlG13
import Derived.Test.YtljcgggflgbenaaGreatDoorTie
import Derived.Test.YtljcgggflgbenaaGreatDoorCards
import Derived.ChangeSame
import Derived.ChangeVars
import Derived.JoinedOf
import Derived.LaidLaws
import Derived.LaidHandle
import Derived.SevenTiedAt
set_option linter.all false
namespace Go.Proofs.YtljcgggflgbenaaGreatDoor
open Go Go.Gx Go.RowKit Go.ChangeShapes Go.WideShapes Go.ChangeAt
theorem gsil : Tryz.prog.globalNamed "bastide/slots.silence" = some 0 := by kernel_rfl
theorem gsilT : (Tryz.prog.globals[0]?).map (·.type) = some 78 := by kernel_rfl
theorem fsil : fieldsOf Tryz.prog 78 [(3, 0), (37, 1)] = true := by kernel_rfl
theorem usilI : Tryz.prog.underlying 3 = some (.int .i64) := by kernel_rfl
theorem usilD : Tryz.prog.underlying 37 = some (.array 32 5) := by kernel_rfl
theorem usilB : Tryz.prog.underlying 5 = some (.int .u8) := by kernel_rfl
theorem csilI : Tryz.prog.cellsOf 3 = 1 := by kernel_rfl
theorem csilD : Tryz.prog.cellsOf 37 = 32 := by kernel_rfl
theorem csilB : Tryz.prog.cellsOf 5 = 1 := by kernel_rfl
theorem csilW : Tryz.prog.cellsOf 78 = 33 := by kernel_rfl
set_option maxRecDepth 100000 in
theorem sil_cells {W : World} {cs : List Value} {fuel : Nat} {p : List MemPlace} (h : DataW.trod (fun _ => ()) Tryz.prog W 0 (fun _ => true) false fuel 78 cs = some (Rows.laid_bastide_slots_silence, p)) : cs = silence.cells := by
  have hf := fsil
  unfold fieldsOf at hf
  split at hf
  · rename_i fs hu
    have hf := eq_of_beq hf
    obtain ⟨xs, n, _, hx, hl, hxl, hg⟩ := DataW.trod_struct hu h
    injection hx with hx _
    rw [csilW] at hl
    have hfl : fs.toList.length = 2 := by have := congrArg List.length hf; simpa using this
    match hfs : fs.toList, hfl with
    | [a, b], _ =>
      rw [hfs] at hf
      simp only [List.map_cons, List.map_nil, List.cons.injEq, Prod.mk.injEq, and_true] at hf
      obtain ⟨⟨a1, a2⟩, b1, b2⟩ := hf
      have hxl' : xs.length = 2 := by rw [hxl, ← Array.length_toList, hfs]; rfl
      match xs, hxl' with
      | [x, y], _ =>
        have g0 := hg 0 a (by rw [← Array.getElem?_toList, hfs]; rfl)
        have g1 := hg 1 b (by rw [← Array.getElem?_toList, hfs]; rfl)
        rw [a1, a2, csilI] at g0
        rw [b1, b2, csilD] at g1
        unfold Rows.laid_bastide_slots_silence at hx
        injection hx with hx
        simp only [List.map_cons, List.map_nil, List.cons.injEq, and_true] at hx
        obtain ⟨k, e0, e1, _⟩ := DataW.trod_int usilI g0
        obtain ⟨zs, m, _, z1, z2, z3, z4⟩ := DataW.trod_array usilD g1
        have hk : k = -1 := by
          have := hx.1; rw [e1] at this; simp only [DataW.lit.injEq, Lit.int.injEq, true_and] at this; exact this.symm
        have hz : zs.map (·.1) = List.replicate 32 (.lit (.int .u8 0)) := by
          have := hx.2; rw [z1] at this; simp only [DataW.agg.injEq] at this; exact this.symm
        have hb : ∀ i, i < 32 → cs[1 + i]? = some (.int .u8 0) := by
          intro i hi
          have h4 := z4 i hi
          rw [csilB] at h4
          have hzi : i < zs.length := by rw [z3]; exact hi
          rw [List.getElem?_eq_getElem hzi] at h4
          obtain ⟨q, q1, q2, _⟩ := DataW.trod_int usilB h4
          have : (zs.map (·.1))[i]? = some (DataW.lit (.int .u8 0)) := by rw [hz, List.getElem?_replicate, if_pos hi]
          rw [List.getElem?_map, List.getElem?_eq_getElem hzi] at this
          simp only [Option.map_some, Option.some.injEq] at this
          rw [q2] at this
          simp only [DataW.lit.injEq, Lit.int.injEq, true_and] at this
          subst this
          have := congrArg (·[0]?) q1
          simp only [Nat.mul_one, List.getElem?_take, List.getElem?_drop, List.drop_drop, List.drop_take] at this
          simpa [Nat.sub_pos_of_lt hi, hi] using this
        have h0 : cs[0]? = some (.int .i64 (-1)) := by
          have := congrArg (·[0]?) e0
          rw [hk] at this
          simpa [List.getElem?_take] using this
        apply List.ext_getElem?
        intro i
        rcases Nat.lt_or_ge i 33 with hi | hi
        · cases i with
          | zero => rw [h0]; rfl
          | succ i => rw [Nat.add_comm i 1, hb i (by omega)]; show _ = (Value.int .i64 (-1) :: (Dig.zero.cells ++ []))[1 + i]?; rw [Nat.add_comm 1 i, List.getElem?_cons_succ, List.append_nil]; show _ = (List.map _ (List.replicate 32 (0 : UInt8)))[i]?; rw [List.getElem?_map, List.getElem?_replicate, if_pos (by omega)]; rfl
        · rw [List.getElem?_eq_none (by omega), List.getElem?_eq_none (by rw [show silence.cells.length = 33 from rfl]; exact hi)]
  · cases hf
theorem hsil_of {W : World} (h : laidMetH Tryz.prog [("bastide/slots.silence", Rows.laid_bastide_slots_silence)] W) : RowG (hG W) 0 0 silence.cells := by
  have h' : laidMet Tryz.prog [("bastide/slots.silence", Rows.laid_bastide_slots_silence)] W := h
  obtain ⟨ps, ⟨g, t, cs, fuel, p, q, e1, e2, e3, e4, _⟩, _, _⟩ := h'
  obtain rfl : g = 0 := (Option.some.inj (gsil.symm.trans e1)).symm
  obtain rfl : t = 78 := (Option.some.inj (gsilT.symm.trans e2)).symm
  have e5 := sil_cells e4
  simp only [World.var?, gsil, Option.bind_some] at e3
  split at e3
  · rename_i c T fz hh
    injection e3 with e3
    subst e3
    exact ⟨c, T, fz, hh, fun j u hu => by rw [Nat.zero_add, ← Array.getElem?_toList, e5]; exact hu⟩
  · cases e3
noncomputable def laidWorld (os : Os) : World :=
  let w0 := World.holding Tryz.prog os ⟨#[], #[], []⟩
  { w0 with heap := w0.heap.modify 0 fun
      | .cells _ t frozen => .cells #[.int .i64 (-1), .int .u8 0, .int .u8 0, .int .u8 0, .int .u8 0, .int .u8 0, .int .u8 0, .int .u8 0, .int .u8 0, .int .u8 0, .int .u8 0, .int .u8 0, .int .u8 0, .int .u8 0, .int .u8 0, .int .u8 0, .int .u8 0, .int .u8 0, .int .u8 0, .int .u8 0, .int .u8 0, .int .u8 0, .int .u8 0, .int .u8 0, .int .u8 0, .int .u8 0, .int .u8 0, .int .u8 0, .int .u8 0, .int .u8 0, .int .u8 0, .int .u8 0, .int .u8 0] t frozen
      | o => o }
theorem laidWorld_met (os : Os) (args : Array Value) : laidMetH Tryz.prog [("bastide/slots.silence", Rows.laid_bastide_slots_silence)] ((laidWorld os).forCall (fun _ _ => 0) ⟨#[], args, []⟩).memory :=
  laidMetH_of_parts (laidMet_of_run' 8 (by kernel_rfl) (by kernel_rfl)) (by kernel_rfl)
theorem rown : ownKnob Tryz.prog.godebug = none := by kernel_rfl
theorem rbool : Tryz.prog.underlying 4 = some .bool := by kernel_rfl
set_option maxRecDepth 100000 in
theorem slotsNames_lifted (os : Os) (started : os.Started) (H : Type) (enc : TypeId × Value → H) :
    ReturnsInHanded {} Tryz.checked os 4 .any (fun w args => (Rows.slotsNamesSpec.pre enc Tryz.prog Tryz.f4 [] false w args ∧ laidMetH Tryz.prog Rows.slotsNamesRow.laid w) ∧ sizedMet enc Tryz.prog Tryz.f4 (OpenSpec.ofChange Rows.slotsNamesSpec) false w args) (Rows.slotsNamesSpec.post enc Tryz.prog Tryz.f4 false true false false) := by
  refine returnsInHanded_of_change_and (C := Tryz.checked) (X := (fun w _ => laidMetH Tryz.prog Rows.slotsNamesRow.laid w)) (fun _ _ _ hh h => h.of_heap hh) rown started (by kernel_rfl) Tryz.func4
    (ChangeSpec.witness_at (enc := enc) (C := Tryz.checked) (os := os) (X := (fun w _ => laidMetH Tryz.prog Rows.slotsNamesRow.laid w)) false (laidWorld os) #[] 8 rfl (by kernel_rfl) (by kernel_rfl) (by kernel_rfl) (by kernel_rfl) (by kernel_rfl) (laidWorld_met os _)) ?_
  intro W base args ds gs before hval0 hW hcnd hsz0 hL _
  have hval : ∀ (j : Nat) t v, Tryz.f4.params[j]? = some t → args[j]? = some v → Value.okWide Tryz.prog W .any base t v := hval0
  have hsz : (DataW.weightsEach Tryz.prog (Tryz.f4.params.toList ++ Rows.slotsNamesSpec.plain.varTypes Tryz.prog) (ds ++ gs)).all (· ≤ reachBytes) = true := hsz0
  have hW' := hW
  obtain ⟨p, q, hA0, hV, rfl, hfz, hnd⟩ := hW
  have hA : DataW.TrodAll enc Tryz.prog W 0 (fun _ => true) true Tryz.f4.params.toList args.toList ds p := hA0
  rw [Tryz.params4] at hA hval hsz
  obtain ⟨rfl, rfl, rfl⟩ := trodAll_none hA
  obtain ⟨rfl, rfl⟩ := trodVars_none hV
  clear hA0 hval0
  refine Calls.mono (names_ret (hG W) W (hG_holds W)  (hsil_of hL)) fun e W' ⟨he, hk⟩ => ?_
  subst he
  have bel := hk.below
  exact ⟨_, rfl, _, _, _, [], _, [], hW', trodAll_mk1 (shut_bool rbool _), rfl, rfl, bel.frame _, fun h => by cases h⟩
/-- The statement. -/
theorem slotsNames_holds : Rows.SlotsNamesSaid :=
  OpenClaim.holds_of_wide 4 Tryz.f4 rfl rfl rfl rfl rfl rfl rfl ⟨rfl, rfl, rfl, rfl, rfl⟩ rfl rfl rfl rfl rfl (by kernel_rfl) Tryz.func4 (by kernel_rfl)
    (of_decide_eq_true (by kernel_rfl)) (by unfold Func.isWrapper; first | (rw [if_pos (by decide +kernel)]; kernel_rfl) | (rw [if_neg (by decide +kernel)]; exact ⟨rfl, rfl⟩))
    (fun os started H enc _ => slotsNames_lifted os started H enc)
/-- The card. -/
theorem slotsNames_card : Rows.SlotsNamesCardSaid :=
  Claim7.holds_tied_plain_at .later [] [.data] true (true, "448e5aa54332cb6917bd3dcbf6a55d9a2bc7e591732aca8380d5a09d67a0d348") false
    slotsNames_holds (fun _ h => by cases h) (by kernel_rfl) (fun _ h => by cases h) slotsNames_row_tie rfl ⟨rfl, rfl⟩ (by kernel_rfl) rfl
    (fun f fn hf hfn => by
      obtain rfl : f = 4 := Option.some.inj ((show Tryz.prog.funcNamed "bastide/bastidelaw14.SlotsNames" = some 4 by kernel_rfl).symm.trans hf) |>.symm
      obtain rfl : fn = Tryz.f4 := (Option.some.inj (Tryz.func4.symm.trans hfn)).symm
      exact ⟨by kernel_rfl, fun j t ht => by
        rw [Tryz.params4] at ht
        match j with
        | j + 0 => simp at ht⟩)
    (by kernel_rfl)
#print axioms slotsNames_card
end Go.Proofs.YtljcgggflgbenaaGreatDoor
