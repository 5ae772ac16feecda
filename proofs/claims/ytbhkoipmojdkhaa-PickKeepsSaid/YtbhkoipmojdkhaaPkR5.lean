/- The rows of the pick seat. No condition. -/
import Derived.Test.YtbhkoipmojdkhaaGxOpen
import Derived.Test.YtbhkoipmojdkhaaPkG29
set_option linter.all false
namespace Go.Proofs.Ytbhkoipmojdkhaa
open Go Go.Gx Go.RowKit Go.ChangeShapes Go.WideShapes Go.ChangeAt
theorem rui3 : Try.prog.underlying 3 = some (.int .i64) := by kernel_rfl
theorem opn3 : Opn Try.prog Int 3 := opnInt rui3
theorem rua28 : Try.prog.underlying 28 = some (.array 32 5) := by kernel_rfl
theorem ce28 : Try.prog.cellsOf 28 = 32 := by kernel_rfl
theorem rui5 : Try.prog.underlying 5 = some (.int .u8) := by kernel_rfl
theorem ce5 : Try.prog.cellsOf 5 = 1 := by kernel_rfl
theorem opn28 : Opn Try.prog Dig 28 := opnDig rua28 rui5 ce28 ce5
theorem ce3 : Try.prog.cellsOf 3 = 1 := by kernel_rfl
theorem ce30 : Try.prog.cellsOf 30 = 33 := by kernel_rfl
theorem rf30 : fieldsOf Try.prog 30 [(3, 0), (28, 1)] = true := by kernel_rfl
theorem opn30 : Opn Try.prog Mark 30 := by
  intro H enc W sp fuel cs d ps hd hw
  obtain ⟨hl, ds, ha⟩ := opn_fields rf30 hd hw
  rw [ce30] at hl
  match ds, ha with
  | [d0, d1], ⟨⟨f0, p0, h0⟩, w0, ⟨⟨f1, p1, h1⟩, w1, _⟩⟩ =>
    obtain ⟨x0, e0⟩ := opn3 enc W sp f0 _ d0 p0 h0 w0
    rw [ce3] at e0
    have e0 : (cs.drop 0).take 1 = [.int .i64 x0] := e0
    obtain ⟨x1, e1⟩ := opn28 enc W sp f1 _ d1 p1 h1 w1
    rw [ce28] at e1
    have e1 : (cs.drop 1).take 32 = x1.cells := e1
    have hcs : cs = ((cs.drop 0).take 1 ++ ((cs.drop 1).take 32 ++ [])) := segs_eq (cs := cs) (l := [1, 32]) (by rw [hl]; exact Nat.le_refl _)
    rw [e0, e1] at hcs
    exact ⟨⟨x0, x1⟩, hcs.trans (by first | rfl | simp [Mark.cells])⟩
theorem rus31 : Try.prog.underlying 31 = some (.slice 30) := by kernel_rfl
theorem be30 : Try.prog.bytesOf 30 = 40 := by kernel_rfl
theorem opn31 : Opn Try.prog (List Mark) 31 := opnSlice rus31 (by rw [ce30]; rfl) (by decide) (by rw [be30]; decide) opn30
theorem ce58 : Try.prog.cellsOf 58 = 34 := by kernel_rfl
theorem rf58 : fieldsOf Try.prog 58 [(3, 0), (28, 1), (3, 33)] = true := by kernel_rfl
theorem opn58 : Opn Try.prog Stand 58 := by
  intro H enc W sp fuel cs d ps hd hw
  obtain ⟨hl, ds, ha⟩ := opn_fields rf58 hd hw
  rw [ce58] at hl
  match ds, ha with
  | [d0, d1, d2], ⟨⟨f0, p0, h0⟩, w0, ⟨⟨f1, p1, h1⟩, w1, ⟨⟨f2, p2, h2⟩, w2, _⟩⟩⟩ =>
    obtain ⟨x0, e0⟩ := opn3 enc W sp f0 _ d0 p0 h0 w0
    rw [ce3] at e0
    have e0 : (cs.drop 0).take 1 = [.int .i64 x0] := e0
    obtain ⟨x1, e1⟩ := opn28 enc W sp f1 _ d1 p1 h1 w1
    rw [ce28] at e1
    have e1 : (cs.drop 1).take 32 = x1.cells := e1
    obtain ⟨x2, e2⟩ := opn3 enc W sp f2 _ d2 p2 h2 w2
    rw [ce3] at e2
    have e2 : (cs.drop 33).take 1 = [.int .i64 x2] := e2
    have hcs : cs = ((cs.drop 0).take 1 ++ ((cs.drop 1).take 32 ++ ((cs.drop 33).take 1 ++ []))) := segs_eq (cs := cs) (l := [1, 32, 1]) (by rw [hl]; exact Nat.le_refl _)
    rw [e0, e1, e2] at hcs
    exact ⟨⟨x0, x1, x2⟩, hcs.trans (by first | rfl | simp [Stand.cells])⟩
theorem rus47 : Try.prog.underlying 47 = some (.slice 58) := by kernel_rfl
theorem be58 : Try.prog.bytesOf 58 = 48 := by kernel_rfl
theorem opn47 : Opn Try.prog (List Stand) 47 := opnSlice rus47 (by rw [ce58]; rfl) (by decide) (by rw [be58]; decide) opn58
theorem ce31 : Try.prog.cellsOf 31 = 1 := by kernel_rfl
theorem ce47 : Try.prog.cellsOf 47 = 1 := by kernel_rfl
theorem ce49 : Try.prog.cellsOf 49 = 6 := by kernel_rfl
theorem rf49 : fieldsOf Try.prog 49 [(3, 0), (3, 1), (3, 2), (31, 3), (47, 4), (47, 5)] = true := by kernel_rfl
theorem opn49 : Opn Try.prog Change 49 := by
  intro H enc W sp fuel cs d ps hd hw
  obtain ⟨hl, ds, ha⟩ := opn_fields rf49 hd hw
  rw [ce49] at hl
  match ds, ha with
  | [d0, d1, d2, d3, d4, d5], ⟨⟨f0, p0, h0⟩, w0, ⟨⟨f1, p1, h1⟩, w1, ⟨⟨f2, p2, h2⟩, w2, ⟨⟨f3, p3, h3⟩, w3, ⟨⟨f4, p4, h4⟩, w4, ⟨⟨f5, p5, h5⟩, w5, _⟩⟩⟩⟩⟩⟩ =>
    obtain ⟨x0, e0⟩ := opn3 enc W sp f0 _ d0 p0 h0 w0
    rw [ce3] at e0
    have e0 : (cs.drop 0).take 1 = [.int .i64 x0] := e0
    obtain ⟨x1, e1⟩ := opn3 enc W sp f1 _ d1 p1 h1 w1
    rw [ce3] at e1
    have e1 : (cs.drop 1).take 1 = [.int .i64 x1] := e1
    obtain ⟨x2, e2⟩ := opn3 enc W sp f2 _ d2 p2 h2 w2
    rw [ce3] at e2
    have e2 : (cs.drop 2).take 1 = [.int .i64 x2] := e2
    obtain ⟨x3, e3⟩ := opn31 enc W sp f3 _ d3 p3 h3 w3
    rw [ce31] at e3
    obtain ⟨v3, e3, s3⟩ := e3
    have e3 : (cs.drop 3).take 1 = [v3] := e3
    obtain ⟨x4, e4⟩ := opn47 enc W sp f4 _ d4 p4 h4 w4
    rw [ce47] at e4
    obtain ⟨v4, e4, s4⟩ := e4
    have e4 : (cs.drop 4).take 1 = [v4] := e4
    obtain ⟨x5, e5⟩ := opn47 enc W sp f5 _ d5 p5 h5 w5
    rw [ce47] at e5
    obtain ⟨v5, e5, s5⟩ := e5
    have e5 : (cs.drop 5).take 1 = [v5] := e5
    have hcs : cs = ((cs.drop 0).take 1 ++ ((cs.drop 1).take 1 ++ ((cs.drop 2).take 1 ++ ((cs.drop 3).take 1 ++ ((cs.drop 4).take 1 ++ ((cs.drop 5).take 1 ++ [])))))) := segs_eq (cs := cs) (l := [1, 1, 1, 1, 1, 1]) (by rw [hl]; exact Nat.le_refl _)
    rw [e0, e1, e2, e3, e4, e5] at hcs
    exact ⟨⟨x0, x1, x2, x3, x4, x5⟩, v3, v4, v5, hcs.trans (by first | rfl | simp), s3, s4, s5⟩
theorem ce53 : Try.prog.cellsOf 53 = 6 := by kernel_rfl
theorem rf53 : fieldsOf Try.prog 53 [(49, 0)] = true := by kernel_rfl
theorem opn53 : Opn Try.prog Liar 53 := by
  intro H enc W sp fuel cs d ps hd hw
  obtain ⟨hl, ds, ha⟩ := opn_fields rf53 hd hw
  rw [ce53] at hl
  match ds, ha with
  | [d0], ⟨⟨f0, p0, h0⟩, w0, _⟩ =>
    obtain ⟨x0, e0⟩ := opn49 enc W sp f0 _ d0 p0 h0 w0
    rw [ce49] at e0
    obtain ⟨v0_0, v0_1, v0_2, e0, s0_0, s0_1, s0_2⟩ := Change.opIs e0
    have hcs : cs = ((cs.drop 0).take 6 ++ []) := segs_eq (cs := cs) (l := [6]) (by rw [hl]; exact Nat.le_refl _)
    rw [e0] at hcs
    exact ⟨⟨x0⟩, v0_0, v0_1, v0_2, hcs.trans (by first | rfl | simp), s0_0, s0_1, s0_2⟩
theorem rus39 : Try.prog.underlying 39 = some (.slice 53) := by kernel_rfl
theorem be53 : Try.prog.bytesOf 53 = 96 := by kernel_rfl
theorem opn39 : Opn Try.prog (List Liar) 39 := opnSlice rus39 (by rw [ce53]; rfl) (by decide) (by rw [be53]; decide) opn53
theorem rub4 : Try.prog.underlying 4 = some .bool := by kernel_rfl
theorem opn4 : Opn Try.prog Bool 4 := opnBool rub4
theorem opn5 : Opn Try.prog UInt8 5 := opnU8 rui5
theorem rus44 : Try.prog.underlying 44 = some (.slice 5) := by kernel_rfl
theorem be5 : Try.prog.bytesOf 5 = 1 := by kernel_rfl
theorem opn44 : Opn Try.prog (List UInt8) 44 := opnSlice rus44 (by rw [ce5]; rfl) (by decide) (by rw [be5]; decide) opn5
theorem ce4 : Try.prog.cellsOf 4 = 1 := by kernel_rfl
theorem ce44 : Try.prog.cellsOf 44 = 1 := by kernel_rfl
theorem ce46 : Try.prog.cellsOf 46 = 5 := by kernel_rfl
theorem rf46 : fieldsOf Try.prog 46 [(4, 0), (4, 1), (5, 2), (3, 3), (44, 4)] = true := by kernel_rfl
theorem opn46 : Opn Try.prog Past 46 := by
  intro H enc W sp fuel cs d ps hd hw
  obtain ⟨hl, ds, ha⟩ := opn_fields rf46 hd hw
  rw [ce46] at hl
  match ds, ha with
  | [d0, d1, d2, d3, d4], ⟨⟨f0, p0, h0⟩, w0, ⟨⟨f1, p1, h1⟩, w1, ⟨⟨f2, p2, h2⟩, w2, ⟨⟨f3, p3, h3⟩, w3, ⟨⟨f4, p4, h4⟩, w4, _⟩⟩⟩⟩⟩ =>
    obtain ⟨x0, e0⟩ := opn4 enc W sp f0 _ d0 p0 h0 w0
    rw [ce4] at e0
    have e0 : (cs.drop 0).take 1 = [.bool x0] := e0
    obtain ⟨x1, e1⟩ := opn4 enc W sp f1 _ d1 p1 h1 w1
    rw [ce4] at e1
    have e1 : (cs.drop 1).take 1 = [.bool x1] := e1
    obtain ⟨x2, e2⟩ := opn5 enc W sp f2 _ d2 p2 h2 w2
    rw [ce5] at e2
    have e2 : (cs.drop 2).take 1 = [.int .u8 (x2.toNat : Int)] := e2
    obtain ⟨x3, e3⟩ := opn3 enc W sp f3 _ d3 p3 h3 w3
    rw [ce3] at e3
    have e3 : (cs.drop 3).take 1 = [.int .i64 x3] := e3
    obtain ⟨x4, e4⟩ := opn44 enc W sp f4 _ d4 p4 h4 w4
    rw [ce44] at e4
    obtain ⟨v4, e4, s4⟩ := e4
    have e4 : (cs.drop 4).take 1 = [v4] := e4
    have hcs : cs = ((cs.drop 0).take 1 ++ ((cs.drop 1).take 1 ++ ((cs.drop 2).take 1 ++ ((cs.drop 3).take 1 ++ ((cs.drop 4).take 1 ++ []))))) := segs_eq (cs := cs) (l := [1, 1, 1, 1, 1]) (by rw [hl]; exact Nat.le_refl _)
    rw [e0, e1, e2, e3, e4] at hcs
    exact ⟨⟨x0, x1, x2, x3, x4⟩, v4, hcs.trans (by first | rfl | simp), s4⟩
theorem rus40 : Try.prog.underlying 40 = some (.slice 46) := by kernel_rfl
theorem be46 : Try.prog.bytesOf 46 = 40 := by kernel_rfl
theorem opn40 : Opn Try.prog (List Past) 40 := opnSlice rus40 (by rw [ce46]; rfl) (by decide) (by rw [be46]; decide) opn46
theorem rua41 : Try.prog.underlying 41 = some (.array 3 3) := by kernel_rfl
theorem ce41 : Try.prog.cellsOf 41 = 3 := by kernel_rfl
theorem opn41 : Opn Try.prog A3 41 := by
  intro H enc W sp fuel cs d ps hd hw
  obtain ⟨xs, n, _, _, hl, hxl, hg⟩ := DataW.trod_array rua41 hd
  rw [ce41] at hl
  have g0 := hg 0 (by decide)
  rw [List.getElem?_eq_getElem (by omega : 0 < xs.length)] at g0
  obtain ⟨x0, e0, _, _⟩ := DataW.trod_int rui3 g0
  rw [ce3] at e0
  have e0 : (cs.drop 0).take 1 = [.int .i64 x0] := e0
  have g1 := hg 1 (by decide)
  rw [List.getElem?_eq_getElem (by omega : 1 < xs.length)] at g1
  obtain ⟨x1, e1, _, _⟩ := DataW.trod_int rui3 g1
  rw [ce3] at e1
  have e1 : (cs.drop 1).take 1 = [.int .i64 x1] := e1
  have g2 := hg 2 (by decide)
  rw [List.getElem?_eq_getElem (by omega : 2 < xs.length)] at g2
  obtain ⟨x2, e2, _, _⟩ := DataW.trod_int rui3 g2
  rw [ce3] at e2
  have e2 : (cs.drop 2).take 1 = [.int .i64 x2] := e2
  have hcs : cs = ((cs.drop 0).take 1 ++ ((cs.drop 1).take 1 ++ ((cs.drop 2).take 1 ++ []))) := segs_eq (cs := cs) (l := [1, 1, 1]) (by rw [hl]; exact Nat.le_refl _)
  rw [e0, e1, e2] at hcs
  exact ⟨⟨x0, x1, x2⟩, hcs.trans rfl⟩
theorem rown : ownKnob Try.prog.godebug = none := by kernel_rfl
theorem rlaid : laidOutB Try.prog = true := by kernel_rfl
theorem rbool : Try.prog.underlying 4 = some .bool := by kernel_rfl
set_option maxRecDepth 100000 in
theorem pickKeeps_lifted (os : Os) (started : os.Started) (H : Type) (enc : TypeId × Value → H) :
    ReturnsInHanded {} Try.checked os 4 .any (Rows.pickKeepsSpec.pre6 enc Try.prog Try.f4 Rows.pickKeepsRow.domain false) (Rows.pickKeepsSpec.post enc Try.prog Try.f4 false true false false) := by
  refine returnsInHanded_of_change_sized (C := Try.checked) rown started (by kernel_rfl) Try.func4
    (ChangeSpec.witness6 (enc := enc) (C := Try.checked) false ⟨#[], #[.slice none 0 0, .slice none 0 0, .agg #[.int .i64 0, .int .i64 0, .int .i64 0]], []⟩ 8 (by kernel_rfl) (by kernel_rfl) (by kernel_rfl) (by kernel_rfl)) ?_
  intro W base args ds gs before hval0 hW hcnd hsz0 _
  have hval : ∀ (j : Nat) t v, Try.f4.params[j]? = some t → args[j]? = some v → Value.okWide Try.prog W .any base t v := hval0
  have hsz : (DataW.weightsEach Try.prog (Try.f4.params.toList ++ Rows.pickKeepsSpec.plain.varTypes Try.prog) (ds ++ gs)).all (· ≤ reachBytes) = true := hsz0
  have hW' := hW
  obtain ⟨p, q, hA0, hV, rfl, hfz, hnd⟩ := hW
  have hA : DataW.TrodAll enc Try.prog W 0 (fun _ => true) true Try.f4.params.toList args.toList ds p := hA0
  rw [Try.params4] at hA hval hsz
  obtain ⟨v0, vs0, d0, ds0, p0, q0, hargs, rfl, rfl, h0, r0⟩ := trodAll_cons hA
  obtain ⟨v1, vs1, d1, ds1, p1, q1, rfl, rfl, rfl, h1, r1⟩ := trodAll_cons r0
  obtain ⟨v2, vs2, d2, ds2, p2, q2, rfl, rfl, rfl, h2, r2⟩ := trodAll_cons r1
  obtain ⟨rfl, rfl, rfl⟩ := trodAll_nil r2
  obtain rfl : args = #[v0, v1, v2] := by cases args; simp_all
  obtain ⟨rfl, rfl⟩ := trodVars_none hV
  have k0 := h0
  have lt0 : ∀ x ∈ p0, x.block < W.heap.size := by obtain ⟨m, hm⟩ := k0; exact DataW.trod_lt m _ _ _ hm
  obtain ⟨A0, n0, c0, rfl⟩ := okWide_slice rus39 (hval 0 39 v0 rfl rfl)
  obtain ⟨x0, i0⟩ : ∃ x : (List Liar), Rp.Is (hG W) _ x := by
    obtain ⟨m, hm⟩ := h0
    exact opn39 enc W _ m _ d0 p0 hm (fun m hm => by have := List.all_eq_true.1 hsz m (DataW.weights_mem_each (j := 0) rfl rfl m hm); simpa using this)
  obtain ⟨u0, hu0, s0⟩ := i0
  obtain rfl : Value.slice A0 n0 c0 = u0 := by simpa [Value.cells] using hu0
  have k1 := h1
  have lt1 : ∀ x ∈ p1, x.block < W.heap.size := by obtain ⟨m, hm⟩ := k1; exact DataW.trod_lt m _ _ _ hm
  obtain ⟨A1, n1, c1, rfl⟩ := okWide_slice rus40 (hval 1 40 v1 rfl rfl)
  obtain ⟨x1, i1⟩ : ∃ x : (List Past), Rp.Is (hG W) _ x := by
    obtain ⟨m, hm⟩ := h1
    exact opn40 enc W _ m _ d1 p1 hm (fun m hm => by have := List.all_eq_true.1 hsz m (DataW.weights_mem_each (j := 1) rfl rfl m hm); simpa using this)
  obtain ⟨u1, hu1, s1⟩ := i1
  obtain rfl : Value.slice A1 n1 c1 = u1 := by simpa [Value.cells] using hu1
  have k2 := h2
  have lt2 : ∀ x ∈ p2, x.block < W.heap.size := by obtain ⟨m, hm⟩ := k2; exact DataW.trod_lt m _ _ _ hm
  obtain ⟨cs2, rfl, _⟩ := okWide_arr rua41 (hval 2 41 v2 rfl rfl)
  obtain ⟨x2, i2⟩ : ∃ x : A3, Rp.Is (hG W) _ x := by
    obtain ⟨m, hm⟩ := h2
    exact opn41 enc W _ m _ d2 p2 hm (fun m hm => by have := List.all_eq_true.1 hsz m (DataW.weights_mem_each (j := 2) rfl rfl m hm); simpa using this)
  obtain rfl : cs2 = x2.cells.toArray := by have : cs2.toList = x2.cells := i2; rw [← this]
  clear hA0 hval0
  refine Calls.mono (keeps_ret (hG W) W (hG_holds W) _ x0 s0 _ x1 s1 x2) fun e W' ⟨he, hk⟩ => ?_
  subst he
  have bel := hk.below
  exact ⟨_, rfl, _, _, _, [], _, [], hW', trodAll_mk1 (shut_bool rbool _), (trodAll_cons_mk (Below.trod rlaid (by kernel_rfl) (of_decide_eq_true (by kernel_rfl)) k0 bel lt0) (trodAll_cons_mk (Below.trod rlaid (by kernel_rfl) (of_decide_eq_true (by kernel_rfl)) k1 bel lt1) (trodAll_cons_mk (Below.trod rlaid (by kernel_rfl) (of_decide_eq_true (by kernel_rfl)) k2 bel lt2) trodAll_mk0))), rfl, bel.frame _, fun h => by cases h⟩
/-- The statement. -/
theorem pickKeeps_holds : Rows.PickKeepsSaid :=
  OpenClaim.holds_of_wide 4 Try.f4 rfl rfl rfl rfl rfl rfl rfl ⟨rfl, rfl, rfl, rfl, rfl⟩ rfl rfl rfl rfl rfl (by kernel_rfl) Try.func4 (by kernel_rfl)
    (of_decide_eq_true (by kernel_rfl)) (by unfold Func.isWrapper; first | (rw [if_pos (by decide +kernel)]; kernel_rfl) | (rw [if_neg (by decide +kernel)]; exact ⟨rfl, rfl⟩))
    (fun os started H enc _ => pickKeeps_lifted os started H enc)
#print axioms pickKeeps_holds
end Go.Proofs.Ytbhkoipmojdkhaa
