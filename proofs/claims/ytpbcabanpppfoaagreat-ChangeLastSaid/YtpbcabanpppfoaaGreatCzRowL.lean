/- ChangeLast: for every input the statement answers true. No condition. -/
import Derived.Test.YtpbcabanpppfoaaGreatGxObj
import Derived.Test.YtpbcabanpppfoaaGreatCzCl
set_option linter.all false
namespace Go.Proofs.YtpbcabanpppfoaaGreat
open Go Go.Gx Go.Vz Go.RowKit Go.ChangeShapes Go.WideShapes Go.ChangeAt
theorem changeLast_ret (G : Gh) (w : World) (hH : Holds G w) (v0 : Value) (x0 : (List Int)) (s0 : Sl G v0 x0) : Calls Tryz.prog 5 #[v0] w fun e w' => e = .returned (.bool true) ∧ ∃ G', Cx w G G' w' :=
  Calls.mono (cl_true (x0, ()) G w [v0] hH trivial ⟨v0, _, rfl, s0, rfl⟩) (by
    rintro e w' ⟨v, G', he, hk, hR⟩
    have hv : v = .bool true := hR
    subst hv
    exact ⟨he, G', hk⟩)
theorem rui3 : Tryz.prog.underlying 3 = some (.int .i64) := by kernel_rfl
theorem opn3 : Opn Tryz.prog Int 3 := opnInt rui3
theorem rus22 : Tryz.prog.underlying 22 = some (.slice 3) := by kernel_rfl
theorem ce3 : Tryz.prog.cellsOf 3 = 1 := by kernel_rfl
theorem be3 : Tryz.prog.bytesOf 3 = 8 := by kernel_rfl
theorem opn22 : Opn Tryz.prog (List Int) 22 := opnSlice rus22 (by rw [ce3]; rfl) (by decide) (by rw [be3]; decide) opn3
theorem rown : ownKnob Tryz.prog.godebug = none := by kernel_rfl
theorem rlaid : laidOutB Tryz.prog = true := by kernel_rfl
theorem rbool : Tryz.prog.underlying 4 = some .bool := by kernel_rfl
set_option maxRecDepth 100000 in
theorem changeLast_lifted (os : Os) (started : os.Started) (H : Type) (enc : TypeId × Value → H) :
    ReturnsInHanded {} Tryz.checked os 5 .any (Rows.changeLastSpec.pre6 enc Tryz.prog Tryz.f5 Rows.changeLastRow.domain false) (Rows.changeLastSpec.post enc Tryz.prog Tryz.f5 false true false false) := by
  refine returnsInHanded_of_change_sized (C := Tryz.checked) rown started (by kernel_rfl) Tryz.func5
    (ChangeSpec.witness6 (enc := enc) (C := Tryz.checked) false ⟨#[], #[.slice none 0 0], []⟩ 8 (by kernel_rfl) (by kernel_rfl) (by kernel_rfl) (by kernel_rfl)) ?_
  intro W base args ds gs before hval0 hW hcnd hsz0 _
  have hval : ∀ (j : Nat) t v, Tryz.f5.params[j]? = some t → args[j]? = some v → Value.okWide Tryz.prog W .any base t v := hval0
  have hsz : (DataW.weightsEach Tryz.prog (Tryz.f5.params.toList ++ Rows.changeLastSpec.plain.varTypes Tryz.prog) (ds ++ gs)).all (· ≤ reachBytes) = true := hsz0
  have hW' := hW
  obtain ⟨p, q, hA0, hV, rfl, hfz, hnd⟩ := hW
  have hA : DataW.TrodAll enc Tryz.prog W 0 (fun _ => true) true Tryz.f5.params.toList args.toList ds p := hA0
  rw [Tryz.params5] at hA hval hsz
  obtain ⟨v0, vs0, d0, ds0, p0, q0, hargs, rfl, rfl, h0, r0⟩ := trodAll_cons hA
  obtain ⟨rfl, rfl, rfl⟩ := trodAll_nil r0
  obtain rfl : args = #[v0] := by cases args; simp_all
  obtain ⟨rfl, rfl⟩ := trodVars_none hV
  have k0 := h0
  have lt0 : ∀ x ∈ p0, x.block < W.heap.size := by obtain ⟨m, hm⟩ := k0; exact DataW.trod_lt m _ _ _ hm
  obtain ⟨A0, n0, c0, rfl⟩ := okWide_slice rus22 (hval 0 22 v0 rfl rfl)
  obtain ⟨x0, i0⟩ : ∃ x : (List Int), Rp.Is (hG W) _ x := by
    obtain ⟨m, hm⟩ := h0
    exact opn22 enc W _ m _ d0 p0 hm (fun m hm => by have := List.all_eq_true.1 hsz m (DataW.weights_mem_each (j := 0) rfl rfl m hm); simpa using this)
  obtain ⟨u0, hu0, s0⟩ := i0
  obtain rfl : Value.slice A0 n0 c0 = u0 := by simpa [Value.cells] using hu0
  clear hA0 hval0
  refine Calls.mono (changeLast_ret (hG W) W (hG_holds W) _ x0 s0) fun e W' ⟨he, G', hk⟩ => ?_
  subst he
  have bel := hk.below
  exact ⟨_, rfl, _, _, _, [], _, [], hW', trodAll_mk1 (shut_bool rbool _), (trodAll_cons_mk (Below.trod rlaid (by kernel_rfl) (of_decide_eq_true (by kernel_rfl)) k0 bel lt0) trodAll_mk0), rfl, bel.frame _, fun h => by cases h⟩
/-- The statement. -/
theorem changeLast_holds : Rows.ChangeLastSaid :=
  OpenClaim.holds_of_wide 5 Tryz.f5 rfl rfl rfl rfl rfl rfl rfl ⟨rfl, rfl, rfl, rfl, rfl⟩ rfl rfl rfl rfl rfl (by kernel_rfl) Tryz.func5 (by kernel_rfl)
    (of_decide_eq_true (by kernel_rfl)) (by unfold Func.isWrapper; first | (rw [if_pos (by decide +kernel)]; kernel_rfl) | (rw [if_neg (by decide +kernel)]; exact ⟨rfl, rfl⟩))
    (fun os started H enc _ => changeLast_lifted os started H enc)
#print axioms changeLast_holds
end Go.Proofs.YtpbcabanpppfoaaGreat
