/- The rows of the marks seat. No condition. -/
import Derived.Test.YtbmanooiphghmaaGxOpen
import Derived.Test.YtbmanooiphghmaaMkG12
set_option linter.all false
namespace Go.Proofs.Ytbmanooiphghmaa
open Go Go.Gx Go.RowKit Go.ChangeShapes Go.WideShapes Go.ChangeAt
theorem rui3 : Try.prog.underlying 3 = some (.int .i64) := by kernel_rfl
theorem opn3 : Opn Try.prog Int 3 := opnInt rui3
theorem rus22 : Try.prog.underlying 22 = some (.slice 3) := by kernel_rfl
theorem ce3 : Try.prog.cellsOf 3 = 1 := by kernel_rfl
theorem be3 : Try.prog.bytesOf 3 = 8 := by kernel_rfl
theorem opn22 : Opn Try.prog (List Int) 22 := opnSlice rus22 (by rw [ce3]; rfl) (by decide) (by rw [be3]; decide) opn3
theorem ce22 : Try.prog.cellsOf 22 = 1 := by kernel_rfl
theorem ce24 : Try.prog.cellsOf 24 = 2 := by kernel_rfl
theorem rf24 : fieldsOf Try.prog 24 [(3, 0), (22, 1)] = true := by kernel_rfl
theorem opn24 : Opn Try.prog Crew 24 := by
  intro H enc W sp fuel cs d ps hd hw
  obtain ⟨hl, ds, ha⟩ := opn_fields rf24 hd hw
  rw [ce24] at hl
  match ds, ha with
  | [d0, d1], ⟨⟨f0, p0, h0⟩, w0, ⟨⟨f1, p1, h1⟩, w1, _⟩⟩ =>
    obtain ⟨x0, e0⟩ := opn3 enc W sp f0 _ d0 p0 h0 w0
    rw [ce3] at e0
    have e0 : (cs.drop 0).take 1 = [.int .i64 x0] := e0
    obtain ⟨x1, e1⟩ := opn22 enc W sp f1 _ d1 p1 h1 w1
    rw [ce22] at e1
    obtain ⟨v1, e1, s1⟩ := e1
    have e1 : (cs.drop 1).take 1 = [v1] := e1
    have hcs : cs = ((cs.drop 0).take 1 ++ ((cs.drop 1).take 1 ++ [])) := segs_eq (cs := cs) (l := [1, 1]) (by rw [hl]; exact Nat.le_refl _)
    rw [e0, e1] at hcs
    exact ⟨⟨x0, x1⟩, v1, hcs.trans (by first | rfl | simp), s1⟩
theorem rua26 : Try.prog.underlying 26 = some (.array 32 5) := by kernel_rfl
theorem ce26 : Try.prog.cellsOf 26 = 32 := by kernel_rfl
theorem rui5 : Try.prog.underlying 5 = some (.int .u8) := by kernel_rfl
theorem ce5 : Try.prog.cellsOf 5 = 1 := by kernel_rfl
theorem opn26 : Opn Try.prog Dig 26 := opnDig rua26 rui5 ce26 ce5
theorem ce28 : Try.prog.cellsOf 28 = 33 := by kernel_rfl
theorem rf28 : fieldsOf Try.prog 28 [(3, 0), (26, 1)] = true := by kernel_rfl
theorem opn28 : Opn Try.prog Mark 28 := by
  intro H enc W sp fuel cs d ps hd hw
  obtain ⟨hl, ds, ha⟩ := opn_fields rf28 hd hw
  rw [ce28] at hl
  match ds, ha with
  | [d0, d1], ⟨⟨f0, p0, h0⟩, w0, ⟨⟨f1, p1, h1⟩, w1, _⟩⟩ =>
    obtain ⟨x0, e0⟩ := opn3 enc W sp f0 _ d0 p0 h0 w0
    rw [ce3] at e0
    have e0 : (cs.drop 0).take 1 = [.int .i64 x0] := e0
    obtain ⟨x1, e1⟩ := opn26 enc W sp f1 _ d1 p1 h1 w1
    rw [ce26] at e1
    have e1 : (cs.drop 1).take 32 = x1.cells := e1
    have hcs : cs = ((cs.drop 0).take 1 ++ ((cs.drop 1).take 32 ++ [])) := segs_eq (cs := cs) (l := [1, 32]) (by rw [hl]; exact Nat.le_refl _)
    rw [e0, e1] at hcs
    exact ⟨⟨x0, x1⟩, hcs.trans (by first | rfl | (simp [Mark.cells]; done) | simp [Mark.cells, Do.cells, Word.cells])⟩
theorem ce39 : Try.prog.cellsOf 39 = 35 := by kernel_rfl
theorem rf39 : fieldsOf Try.prog 39 [(3, 0), (3, 1), (28, 2)] = true := by kernel_rfl
theorem opn39 : Opn Try.prog Do 39 := by
  intro H enc W sp fuel cs d ps hd hw
  obtain ⟨hl, ds, ha⟩ := opn_fields rf39 hd hw
  rw [ce39] at hl
  match ds, ha with
  | [d0, d1, d2], ⟨⟨f0, p0, h0⟩, w0, ⟨⟨f1, p1, h1⟩, w1, ⟨⟨f2, p2, h2⟩, w2, _⟩⟩⟩ =>
    obtain ⟨x0, e0⟩ := opn3 enc W sp f0 _ d0 p0 h0 w0
    rw [ce3] at e0
    have e0 : (cs.drop 0).take 1 = [.int .i64 x0] := e0
    obtain ⟨x1, e1⟩ := opn3 enc W sp f1 _ d1 p1 h1 w1
    rw [ce3] at e1
    have e1 : (cs.drop 1).take 1 = [.int .i64 x1] := e1
    obtain ⟨x2, e2⟩ := opn28 enc W sp f2 _ d2 p2 h2 w2
    rw [ce28] at e2
    have e2 : (cs.drop 2).take 33 = x2.cells := e2
    have hcs : cs = ((cs.drop 0).take 1 ++ ((cs.drop 1).take 1 ++ ((cs.drop 2).take 33 ++ []))) := segs_eq (cs := cs) (l := [1, 1, 33]) (by rw [hl]; exact Nat.le_refl _)
    rw [e0, e1, e2] at hcs
    exact ⟨⟨x0, x1, x2⟩, hcs.trans (by first | rfl | (simp [Do.cells]; done) | simp [Mark.cells, Do.cells, Word.cells])⟩
theorem rus29 : Try.prog.underlying 29 = some (.slice 39) := by kernel_rfl
theorem be39 : Try.prog.bytesOf 39 = 56 := by kernel_rfl
theorem opn29 : Opn Try.prog (List Do) 29 := opnSlice rus29 (by rw [ce39]; rfl) (by decide) (by rw [be39]; decide) opn39
theorem rown : ownKnob Try.prog.godebug = none := by kernel_rfl
theorem rlaid : laidOutB Try.prog = true := by kernel_rfl
theorem rbool : Try.prog.underlying 4 = some .bool := by kernel_rfl
set_option maxRecDepth 100000 in
theorem marksPlays_lifted (os : Os) (started : os.Started) (H : Type) (enc : TypeId × Value → H) :
    ReturnsInHanded {} Try.checked os 3 .any (Rows.marksPlaysSpec.pre6 enc Try.prog Try.f3 Rows.marksPlaysRow.domain false) (Rows.marksPlaysSpec.post enc Try.prog Try.f3 false true false false) := by
  refine returnsInHanded_of_change_sized (C := Try.checked) rown started (by kernel_rfl) Try.func3
    (ChangeSpec.witness6 (enc := enc) (C := Try.checked) false ⟨#[], #[.agg #[.int .i64 0, .slice none 0 0], .agg #[.int .i64 0, .int .u8 0, .int .u8 0, .int .u8 0, .int .u8 0, .int .u8 0, .int .u8 0, .int .u8 0, .int .u8 0, .int .u8 0, .int .u8 0, .int .u8 0, .int .u8 0, .int .u8 0, .int .u8 0, .int .u8 0, .int .u8 0, .int .u8 0, .int .u8 0, .int .u8 0, .int .u8 0, .int .u8 0, .int .u8 0, .int .u8 0, .int .u8 0, .int .u8 0, .int .u8 0, .int .u8 0, .int .u8 0, .int .u8 0, .int .u8 0, .int .u8 0, .int .u8 0], .slice none 0 0], []⟩ 8 (by kernel_rfl) (by kernel_rfl) (by kernel_rfl) (by kernel_rfl)) ?_
  intro W base args ds gs before hval0 hW hcnd hsz0 _
  have hval : ∀ (j : Nat) t v, Try.f3.params[j]? = some t → args[j]? = some v → Value.okWide Try.prog W .any base t v := hval0
  have hsz : (DataW.weightsEach Try.prog (Try.f3.params.toList ++ Rows.marksPlaysSpec.plain.varTypes Try.prog) (ds ++ gs)).all (· ≤ reachBytes) = true := hsz0
  have hW' := hW
  obtain ⟨p, q, hA0, hV, rfl, hfz, hnd⟩ := hW
  have hA : DataW.TrodAll enc Try.prog W 0 (fun _ => true) true Try.f3.params.toList args.toList ds p := hA0
  rw [Try.params3] at hA hval hsz
  obtain ⟨v0, vs0, d0, ds0, p0, q0, hargs, rfl, rfl, h0, r0⟩ := trodAll_cons hA
  obtain ⟨v1, vs1, d1, ds1, p1, q1, rfl, rfl, rfl, h1, r1⟩ := trodAll_cons r0
  obtain ⟨v2, vs2, d2, ds2, p2, q2, rfl, rfl, rfl, h2, r2⟩ := trodAll_cons r1
  obtain ⟨rfl, rfl, rfl⟩ := trodAll_nil r2
  obtain rfl : args = #[v0, v1, v2] := by cases args; simp_all
  obtain ⟨rfl, rfl⟩ := trodVars_none hV
  have k0 := h0
  have lt0 : ∀ x ∈ p0, x.block < W.heap.size := by obtain ⟨m, hm⟩ := k0; exact DataW.trod_lt m _ _ _ hm
  obtain ⟨fs0, hfs0⟩ : ∃ fs, Try.prog.underlying 24 = some (.struct fs) := struct_of (by kernel_rfl)
  obtain ⟨cs0, rfl, _⟩ := okWide_struct hfs0 (hval 0 24 v0 rfl rfl)
  obtain ⟨x0, i0⟩ : ∃ x : Crew, Rp.Is (hG W) _ x := by
    obtain ⟨m, hm⟩ := h0
    exact opn24 enc W _ m _ d0 p0 hm (fun m hm => by have := List.all_eq_true.1 hsz m (DataW.weights_mem_each (j := 0) rfl rfl m hm); simpa using this)
  have k1 := h1
  have lt1 : ∀ x ∈ p1, x.block < W.heap.size := by obtain ⟨m, hm⟩ := k1; exact DataW.trod_lt m _ _ _ hm
  obtain ⟨fs1, hfs1⟩ : ∃ fs, Try.prog.underlying 28 = some (.struct fs) := struct_of (by kernel_rfl)
  obtain ⟨cs1, rfl, _⟩ := okWide_struct hfs1 (hval 1 28 v1 rfl rfl)
  obtain ⟨x1, i1⟩ : ∃ x : Mark, Rp.Is (hG W) _ x := by
    obtain ⟨m, hm⟩ := h1
    exact opn28 enc W _ m _ d1 p1 hm (fun m hm => by have := List.all_eq_true.1 hsz m (DataW.weights_mem_each (j := 1) rfl rfl m hm); simpa using this)
  obtain rfl : cs1 = x1.cells.toArray := by have : cs1.toList = x1.cells := i1; rw [← this]
  have k2 := h2
  have lt2 : ∀ x ∈ p2, x.block < W.heap.size := by obtain ⟨m, hm⟩ := k2; exact DataW.trod_lt m _ _ _ hm
  obtain ⟨A2, n2, c2, rfl⟩ := okWide_slice rus29 (hval 2 29 v2 rfl rfl)
  obtain ⟨x2, i2⟩ : ∃ x : (List Do), Rp.Is (hG W) _ x := by
    obtain ⟨m, hm⟩ := h2
    exact opn29 enc W _ m _ d2 p2 hm (fun m hm => by have := List.all_eq_true.1 hsz m (DataW.weights_mem_each (j := 2) rfl rfl m hm); simpa using this)
  obtain ⟨u2, hu2, s2⟩ := i2
  obtain rfl : Value.slice A2 n2 c2 = u2 := by simpa [Value.cells] using hu2
  clear hA0 hval0
  refine Calls.mono (plays_ret (hG W) W (hG_holds W) _ x0 i0 x1 _ x2 s2) fun e W' ⟨he, hk⟩ => ?_
  subst he
  have bel := hk.below
  exact ⟨_, rfl, _, _, _, [], _, [], hW', trodAll_mk1 (shut_bool rbool _), (trodAll_cons_mk (Below.trod rlaid (by kernel_rfl) (of_decide_eq_true (by kernel_rfl)) k0 bel lt0) (trodAll_cons_mk (Below.trod rlaid (by kernel_rfl) (of_decide_eq_true (by kernel_rfl)) k1 bel lt1) (trodAll_cons_mk (Below.trod rlaid (by kernel_rfl) (of_decide_eq_true (by kernel_rfl)) k2 bel lt2) trodAll_mk0))), rfl, bel.frame _, fun h => by cases h⟩
/-- The statement. -/
theorem marksPlays_holds : Rows.MarksPlaysSaid :=
  OpenClaim.holds_of_wide 3 Try.f3 rfl rfl rfl rfl rfl rfl rfl ⟨rfl, rfl, rfl, rfl, rfl⟩ rfl rfl rfl rfl rfl (by kernel_rfl) Try.func3 (by kernel_rfl)
    (of_decide_eq_true (by kernel_rfl)) (by unfold Func.isWrapper; first | (rw [if_pos (by decide +kernel)]; kernel_rfl) | (rw [if_neg (by decide +kernel)]; exact ⟨rfl, rfl⟩))
    (fun os started H enc _ => marksPlays_lifted os started H enc)
#print axioms marksPlays_holds
end Go.Proofs.Ytbmanooiphghmaa
