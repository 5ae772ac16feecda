/- ChangeTrue: for every input the statement answers true. No condition. -/
import Derived.Test.YtpbcabanpppfoaaGreatGxObj
import Derived.Test.YtpbcabanpppfoaaGreatCzTw
set_option linter.all false
namespace Go.Proofs.YtpbcabanpppfoaaGreat
open Go Go.Gx Go.Vz Go.RowKit Go.ChangeShapes Go.WideShapes Go.ChangeAt
theorem changeTrue_ret (G : Gh) (w : World) (hH : Holds G w) (a0 : Int) (v1 : Value) (x1 : (List Word)) (s1 : Sl G v1 x1) (c2 : Array Value) (x2 : (AV .i64 3)) (s2 : Rp.Is G c2.toList x2) : Calls Tryz.prog 4 #[.int .i64 a0, v1, .agg c2] w fun e w' => e = .returned (.bool true) ∧ ∃ G', Cx w G G' w' :=
  Calls.mono (tw_true (a0, x1, x2, ()) G w [.int .i64 a0, v1, .agg c2] hH trivial ⟨.int .i64 a0, _, rfl, rfl, ⟨v1, _, rfl, s1, ⟨.agg c2, _, rfl, ⟨c2.toList, rfl, s2⟩, rfl⟩⟩⟩) (by
    rintro e w' ⟨v, G', he, hk, hR⟩
    have hv : v = .bool true := hR
    subst hv
    exact ⟨he, G', hk⟩)
theorem rui3 : Tryz.prog.underlying 3 = some (.int .i64) := by kernel_rfl
theorem opn3 : Opn Tryz.prog Int 3 := opnInt rui3
theorem rub4 : Tryz.prog.underlying 4 = some .bool := by kernel_rfl
theorem opn4 : Opn Tryz.prog Bool 4 := opnBool rub4
theorem rui5 : Tryz.prog.underlying 5 = some (.int .u8) := by kernel_rfl
theorem opn5 : Opn Tryz.prog UInt8 5 := opnU8 rui5
theorem ce3 : Tryz.prog.cellsOf 3 = 1 := by kernel_rfl
theorem ce4 : Tryz.prog.cellsOf 4 = 1 := by kernel_rfl
theorem ce5 : Tryz.prog.cellsOf 5 = 1 := by kernel_rfl
theorem ce57 : Tryz.prog.cellsOf 57 = 5 := by kernel_rfl
theorem rf57 : fieldsOf Tryz.prog 57 [(3, 0), (3, 1), (3, 2), (4, 3), (5, 4)] = true := by kernel_rfl
theorem opn57 : Opn Tryz.prog Word 57 := by
  intro H enc W sp fuel cs d ps hd hw
  obtain ⟨hl, ds, ha⟩ := opn_fields rf57 hd hw
  rw [ce57] at hl
  match ds, ha with
  | [d0, d1, d2, d3, d4], ⟨⟨f0, p0, h0⟩, w0, ⟨⟨f1, p1, h1⟩, w1, ⟨⟨f2, p2, h2⟩, w2, ⟨⟨f3, p3, h3⟩, w3, ⟨⟨f4, p4, h4⟩, w4, _⟩⟩⟩⟩⟩ =>
    obtain ⟨x0, e0⟩ := opn3 enc W sp f0 _ d0 p0 h0 w0
    rw [ce3] at e0
    have e0 : (cs.drop 0).take 1 = [.int .i64 x0] := e0
    obtain ⟨x1, e1⟩ := opn3 enc W sp f1 _ d1 p1 h1 w1
    rw [ce3] at e1
    have e1 : (cs.drop 1).take 1 = [.int .i64 x1] := e1
    obtain ⟨x2, e2⟩ := opn3 enc W sp f2 _ d2 p2 h2 w2
    rw [ce3] at e2
    have e2 : (cs.drop 2).take 1 = [.int .i64 x2] := e2
    obtain ⟨x3, e3⟩ := opn4 enc W sp f3 _ d3 p3 h3 w3
    rw [ce4] at e3
    have e3 : (cs.drop 3).take 1 = [.bool x3] := e3
    obtain ⟨x4, e4⟩ := opn5 enc W sp f4 _ d4 p4 h4 w4
    rw [ce5] at e4
    have e4 : (cs.drop 4).take 1 = [.int .u8 (x4.toNat : Int)] := e4
    have hcs : cs = ((cs.drop 0).take 1 ++ ((cs.drop 1).take 1 ++ ((cs.drop 2).take 1 ++ ((cs.drop 3).take 1 ++ ((cs.drop 4).take 1 ++ []))))) := segs_eq (cs := cs) (l := [1, 1, 1, 1, 1]) (by rw [hl]; exact Nat.le_refl _)
    rw [e0, e1, e2, e3, e4] at hcs
    exact ⟨⟨x0, x1, x2, x3, x4⟩, hcs.trans (by first | rfl | (simp [Word.cells]; done) | simp [Word.cells])⟩
theorem rus53 : Tryz.prog.underlying 53 = some (.slice 57) := by kernel_rfl
theorem be57 : Tryz.prog.bytesOf 57 = 32 := by kernel_rfl
theorem opn53 : Opn Tryz.prog (List Word) 53 := opnSlice rus53 (by rw [ce57]; rfl) (by decide) (by rw [be57]; decide) opn57
theorem rua54 : Tryz.prog.underlying 54 = some (.array 3 3) := by kernel_rfl
theorem ce54 : Tryz.prog.cellsOf 54 = 3 := by kernel_rfl
theorem opn54 : Opn Tryz.prog (AV .i64 3) 54 := by
  intro H enc W sp fuel cs d ps hd hw
  obtain ⟨xs, n, _, _, hl, hxl, hg⟩ := DataW.trod_array rua54 hd
  rw [ce54] at hl
  have g0 := hg 0 (by decide)
  rw [List.getElem?_eq_getElem (by omega : 0 < xs.length)] at g0
  obtain ⟨x0, e0, _, _⟩ := DataW.trod_int rui3 g0
  rw [ce3] at e0
  have e0 : (cs.drop 0).take 1 = [.int .i64 x0] := e0
  have g1 := hg 1 (by decide)
  rw [List.getElem?_eq_getElem (by omega : 1 < xs.length)] at g1
  obtain ⟨x1, e1, _, _⟩ := DataW.trod_int rui3 g1
  rw [ce3] at e1
  have e1 : (cs.drop 1).take 1 = [.int .i64 x1] := e1
  have g2 := hg 2 (by decide)
  rw [List.getElem?_eq_getElem (by omega : 2 < xs.length)] at g2
  obtain ⟨x2, e2, _, _⟩ := DataW.trod_int rui3 g2
  rw [ce3] at e2
  have e2 : (cs.drop 2).take 1 = [.int .i64 x2] := e2
  have hcs : cs = ((cs.drop 0).take 1 ++ ((cs.drop 1).take 1 ++ ((cs.drop 2).take 1 ++ []))) := segs_eq (cs := cs) (l := [1, 1, 1]) (by rw [hl]; exact Nat.le_refl _)
  rw [e0, e1, e2] at hcs
  exact ⟨⟨[x0, x1, x2]⟩, hcs.trans rfl, rfl⟩
theorem rown : ownKnob Tryz.prog.godebug = none := by kernel_rfl
theorem rlaid : laidOutB Tryz.prog = true := by kernel_rfl
theorem rbool : Tryz.prog.underlying 4 = some .bool := by kernel_rfl
set_option maxRecDepth 100000 in
theorem changeTrue_lifted (os : Os) (started : os.Started) (H : Type) (enc : TypeId × Value → H) :
    ReturnsInHanded {} Tryz.checked os 4 .any (Rows.changeTrueSpec.pre6 enc Tryz.prog Tryz.f4 Rows.changeTrueRow.domain false) (Rows.changeTrueSpec.post enc Tryz.prog Tryz.f4 false true false false) := by
  refine returnsInHanded_of_change_sized (C := Tryz.checked) rown started (by kernel_rfl) Tryz.func4
    (ChangeSpec.witness6 (enc := enc) (C := Tryz.checked) false ⟨#[], #[.int .i64 0, .slice none 0 0, .agg #[.int .i64 0, .int .i64 0, .int .i64 0]], []⟩ 8 (by kernel_rfl) (by kernel_rfl) (by kernel_rfl) (by kernel_rfl)) ?_
  intro W base args ds gs before hval0 hW hcnd hsz0 _
  have hval : ∀ (j : Nat) t v, Tryz.f4.params[j]? = some t → args[j]? = some v → Value.okWide Tryz.prog W .any base t v := hval0
  have hsz : (DataW.weightsEach Tryz.prog (Tryz.f4.params.toList ++ Rows.changeTrueSpec.plain.varTypes Tryz.prog) (ds ++ gs)).all (· ≤ reachBytes) = true := hsz0
  have hW' := hW
  obtain ⟨p, q, hA0, hV, rfl, hfz, hnd⟩ := hW
  have hA : DataW.TrodAll enc Tryz.prog W 0 (fun _ => true) true Tryz.f4.params.toList args.toList ds p := hA0
  rw [Tryz.params4] at hA hval hsz
  obtain ⟨v0, vs0, d0, ds0, p0, q0, hargs, rfl, rfl, h0, r0⟩ := trodAll_cons hA
  obtain ⟨v1, vs1, d1, ds1, p1, q1, rfl, rfl, rfl, h1, r1⟩ := trodAll_cons r0
  obtain ⟨v2, vs2, d2, ds2, p2, q2, rfl, rfl, rfl, h2, r2⟩ := trodAll_cons r1
  obtain ⟨rfl, rfl, rfl⟩ := trodAll_nil r2
  obtain rfl : args = #[v0, v1, v2] := by cases args; simp_all
  obtain ⟨rfl, rfl⟩ := trodVars_none hV
  have k0 := h0
  have lt0 : ∀ x ∈ p0, x.block < W.heap.size := by obtain ⟨m, hm⟩ := k0; exact DataW.trod_lt m _ _ _ hm
  obtain ⟨a0, rfl⟩ := okWide_int rui3 (hval 0 3 v0 rfl rfl)
  have k1 := h1
  have lt1 : ∀ x ∈ p1, x.block < W.heap.size := by obtain ⟨m, hm⟩ := k1; exact DataW.trod_lt m _ _ _ hm
  obtain ⟨A1, n1, c1, rfl⟩ := okWide_slice rus53 (hval 1 53 v1 rfl rfl)
  obtain ⟨x1, i1⟩ : ∃ x : (List Word), Rp.Is (hG W) _ x := by
    obtain ⟨m, hm⟩ := h1
    exact opn53 enc W _ m _ d1 p1 hm (fun m hm => by have := List.all_eq_true.1 hsz m (DataW.weights_mem_each (j := 1) rfl rfl m hm); simpa using this)
  obtain ⟨u1, hu1, s1⟩ := i1
  obtain rfl : Value.slice A1 n1 c1 = u1 := by simpa [Value.cells] using hu1
  have k2 := h2
  have lt2 : ∀ x ∈ p2, x.block < W.heap.size := by obtain ⟨m, hm⟩ := k2; exact DataW.trod_lt m _ _ _ hm
  obtain ⟨cs2, rfl, _⟩ := okWide_arr rua54 (hval 2 54 v2 rfl rfl)
  obtain ⟨x2, i2⟩ : ∃ x : (AV .i64 3), Rp.Is (hG W) _ x := by
    obtain ⟨m, hm⟩ := h2
    exact opn54 enc W _ m _ d2 p2 hm (fun m hm => by have := List.all_eq_true.1 hsz m (DataW.weights_mem_each (j := 2) rfl rfl m hm); simpa using this)
  clear hA0 hval0
  refine Calls.mono (changeTrue_ret (hG W) W (hG_holds W) a0 _ x1 s1 _ x2 i2) fun e W' ⟨he, G', hk⟩ => ?_
  subst he
  have bel := hk.below
  exact ⟨_, rfl, _, _, _, [], _, [], hW', trodAll_mk1 (shut_bool rbool _), (trodAll_cons_mk (Below.trod rlaid (by kernel_rfl) (of_decide_eq_true (by kernel_rfl)) k0 bel lt0) (trodAll_cons_mk (Below.trod rlaid (by kernel_rfl) (of_decide_eq_true (by kernel_rfl)) k1 bel lt1) (trodAll_cons_mk (Below.trod rlaid (by kernel_rfl) (of_decide_eq_true (by kernel_rfl)) k2 bel lt2) trodAll_mk0))), rfl, bel.frame _, fun h => by cases h⟩
/-- The statement. -/
theorem changeTrue_holds : Rows.ChangeTrueSaid :=
  OpenClaim.holds_of_wide 4 Tryz.f4 rfl rfl rfl rfl rfl rfl rfl ⟨rfl, rfl, rfl, rfl, rfl⟩ rfl rfl rfl rfl rfl (by kernel_rfl) Tryz.func4 (by kernel_rfl)
    (of_decide_eq_true (by kernel_rfl)) (by unfold Func.isWrapper; first | (rw [if_pos (by decide +kernel)]; kernel_rfl) | (rw [if_neg (by decide +kernel)]; exact ⟨rfl, rfl⟩))
    (fun os started H enc _ => changeTrue_lifted os started H enc)
#print axioms changeTrue_holds
end Go.Proofs.YtpbcabanpppfoaaGreat
