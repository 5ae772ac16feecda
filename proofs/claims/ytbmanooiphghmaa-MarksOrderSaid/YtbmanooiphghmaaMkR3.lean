/- The rows of the marks seat. No condition. -/
import Derived.Test.YtbmanooiphghmaaGxOpen
import Derived.Test.YtbmanooiphghmaaMkG16
set_option linter.all false
namespace Go.Proofs.Ytbmanooiphghmaa
open Go Go.Gx Go.RowKit Go.ChangeShapes Go.WideShapes Go.ChangeAt
theorem rui3 : Try.prog.underlying 3 = some (.int .i64) := by kernel_rfl
theorem opn3 : Opn Try.prog Int 3 := opnInt rui3
theorem rui5 : Try.prog.underlying 5 = some (.int .u8) := by kernel_rfl
theorem opn5 : Opn Try.prog UInt8 5 := opnU8 rui5
theorem ce3 : Try.prog.cellsOf 3 = 1 := by kernel_rfl
theorem ce5 : Try.prog.cellsOf 5 = 1 := by kernel_rfl
theorem ce48 : Try.prog.cellsOf 48 = 3 := by kernel_rfl
theorem rf48 : fieldsOf Try.prog 48 [(3, 0), (3, 1), (5, 2)] = true := by kernel_rfl
theorem opn48 : Opn Try.prog Word 48 := by
  intro H enc W sp fuel cs d ps hd hw
  obtain ⟨hl, ds, ha⟩ := opn_fields rf48 hd hw
  rw [ce48] at hl
  match ds, ha with
  | [d0, d1, d2], ⟨⟨f0, p0, h0⟩, w0, ⟨⟨f1, p1, h1⟩, w1, ⟨⟨f2, p2, h2⟩, w2, _⟩⟩⟩ =>
    obtain ⟨x0, e0⟩ := opn3 enc W sp f0 _ d0 p0 h0 w0
    rw [ce3] at e0
    have e0 : (cs.drop 0).take 1 = [.int .i64 x0] := e0
    obtain ⟨x1, e1⟩ := opn3 enc W sp f1 _ d1 p1 h1 w1
    rw [ce3] at e1
    have e1 : (cs.drop 1).take 1 = [.int .i64 x1] := e1
    obtain ⟨x2, e2⟩ := opn5 enc W sp f2 _ d2 p2 h2 w2
    rw [ce5] at e2
    have e2 : (cs.drop 2).take 1 = [.int .u8 (x2.toNat : Int)] := e2
    have hcs : cs = ((cs.drop 0).take 1 ++ ((cs.drop 1).take 1 ++ ((cs.drop 2).take 1 ++ []))) := segs_eq (cs := cs) (l := [1, 1, 1]) (by rw [hl]; exact Nat.le_refl _)
    rw [e0, e1, e2] at hcs
    exact ⟨⟨x0, x1, x2⟩, hcs.trans (by first | rfl | (simp [Word.cells]; done) | simp [Mark.cells, Do.cells, Word.cells])⟩
theorem rus45 : Try.prog.underlying 45 = some (.slice 48) := by kernel_rfl
theorem be48 : Try.prog.bytesOf 48 = 24 := by kernel_rfl
theorem opn45 : Opn Try.prog (List Word) 45 := opnSlice rus45 (by rw [ce48]; rfl) (by decide) (by rw [be48]; decide) opn48
theorem rown : ownKnob Try.prog.godebug = none := by kernel_rfl
theorem rlaid : laidOutB Try.prog = true := by kernel_rfl
theorem rbool : Try.prog.underlying 4 = some .bool := by kernel_rfl
set_option maxRecDepth 100000 in
theorem marksOrder_lifted (os : Os) (started : os.Started) (H : Type) (enc : TypeId × Value → H) :
    ReturnsInHanded {} Try.checked os 5 .any (Rows.marksOrderSpec.pre6 enc Try.prog Try.f5 Rows.marksOrderRow.domain false) (Rows.marksOrderSpec.post enc Try.prog Try.f5 false true false false) := by
  refine returnsInHanded_of_change_sized (C := Try.checked) rown started (by kernel_rfl) Try.func5
    (ChangeSpec.witness6 (enc := enc) (C := Try.checked) false ⟨#[], #[.slice none 0 0], []⟩ 8 (by kernel_rfl) (by kernel_rfl) (by kernel_rfl) (by kernel_rfl)) ?_
  intro W base args ds gs before hval0 hW hcnd hsz0 _
  have hval : ∀ (j : Nat) t v, Try.f5.params[j]? = some t → args[j]? = some v → Value.okWide Try.prog W .any base t v := hval0
  have hsz : (DataW.weightsEach Try.prog (Try.f5.params.toList ++ Rows.marksOrderSpec.plain.varTypes Try.prog) (ds ++ gs)).all (· ≤ reachBytes) = true := hsz0
  have hW' := hW
  obtain ⟨p, q, hA0, hV, rfl, hfz, hnd⟩ := hW
  have hA : DataW.TrodAll enc Try.prog W 0 (fun _ => true) true Try.f5.params.toList args.toList ds p := hA0
  rw [Try.params5] at hA hval hsz
  obtain ⟨v0, vs0, d0, ds0, p0, q0, hargs, rfl, rfl, h0, r0⟩ := trodAll_cons hA
  obtain ⟨rfl, rfl, rfl⟩ := trodAll_nil r0
  obtain rfl : args = #[v0] := by cases args; simp_all
  obtain ⟨rfl, rfl⟩ := trodVars_none hV
  have k0 := h0
  have lt0 : ∀ x ∈ p0, x.block < W.heap.size := by obtain ⟨m, hm⟩ := k0; exact DataW.trod_lt m _ _ _ hm
  obtain ⟨A0, n0, c0, rfl⟩ := okWide_slice rus45 (hval 0 45 v0 rfl rfl)
  obtain ⟨x0, i0⟩ : ∃ x : (List Word), Rp.Is (hG W) _ x := by
    obtain ⟨m, hm⟩ := h0
    exact opn45 enc W _ m _ d0 p0 hm (fun m hm => by have := List.all_eq_true.1 hsz m (DataW.weights_mem_each (j := 0) rfl rfl m hm); simpa using this)
  obtain ⟨u0, hu0, s0⟩ := i0
  obtain rfl : Value.slice A0 n0 c0 = u0 := by simpa [Value.cells] using hu0
  clear hA0 hval0
  refine Calls.mono (order_ret (hG W) W (hG_holds W) _ x0 s0) fun e W' ⟨he, hk⟩ => ?_
  subst he
  have bel := hk.below
  exact ⟨_, rfl, _, _, _, [], _, [], hW', trodAll_mk1 (shut_bool rbool _), (trodAll_cons_mk (Below.trod rlaid (by kernel_rfl) (of_decide_eq_true (by kernel_rfl)) k0 bel lt0) trodAll_mk0), rfl, bel.frame _, fun h => by cases h⟩
/-- The statement. -/
theorem marksOrder_holds : Rows.MarksOrderSaid :=
  OpenClaim.holds_of_wide 5 Try.f5 rfl rfl rfl rfl rfl rfl rfl ⟨rfl, rfl, rfl, rfl, rfl⟩ rfl rfl rfl rfl rfl (by kernel_rfl) Try.func5 (by kernel_rfl)
    (of_decide_eq_true (by kernel_rfl)) (by unfold Func.isWrapper; first | (rw [if_pos (by decide +kernel)]; kernel_rfl) | (rw [if_neg (by decide +kernel)]; exact ⟨rfl, rfl⟩))
    (fun os started H enc _ => marksOrder_lifted os started H enc)
#print axioms marksOrder_holds
end Go.Proofs.Ytbmanooiphghmaa
