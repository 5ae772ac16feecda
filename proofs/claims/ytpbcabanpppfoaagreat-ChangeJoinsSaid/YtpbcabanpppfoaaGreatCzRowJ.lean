/- ChangeJoins: for every input the statement answers true. No condition. -/
import Derived.Test.YtpbcabanpppfoaaGreatGxObj
import Derived.Test.YtpbcabanpppfoaaGreatCzJw
set_option linter.all false
namespace Go.Proofs.YtpbcabanpppfoaaGreat
open Go Go.Gx Go.Vz Go.RowKit Go.ChangeShapes Go.WideShapes Go.ChangeAt
theorem changeJoins_ret (G : Gh) (w : World) (hH : Holds G w) (a0 : Int) (v1 : Value) (x1 : (List Int)) (s1 : Sl G v1 x1) (a2 : Int) : Calls Tryz.prog 3 #[.int .i64 a0, v1, .int .i64 a2] w fun e w' => e = .returned (.bool true) ∧ ∃ G', Cx w G G' w' :=
  Calls.mono (jw_true (a0, x1, a2, ()) G w [.int .i64 a0, v1, .int .i64 a2] hH trivial ⟨.int .i64 a0, _, rfl, rfl, ⟨v1, _, rfl, s1, ⟨.int .i64 a2, _, rfl, rfl, rfl⟩⟩⟩) (by
    rintro e w' ⟨v, G', he, hk, hR⟩
    have hv : v = .bool true := hR
    subst hv
    exact ⟨he, G', hk⟩)
theorem rui3 : Tryz.prog.underlying 3 = some (.int .i64) := by kernel_rfl
theorem opn3 : Opn Tryz.prog Int 3 := opnInt rui3
theorem rus22 : Tryz.prog.underlying 22 = some (.slice 3) := by kernel_rfl
theorem ce3 : Tryz.prog.cellsOf 3 = 1 := by kernel_rfl
theorem be3 : Tryz.prog.bytesOf 3 = 8 := by kernel_rfl
theorem opn22 : Opn Tryz.prog (List Int) 22 := opnSlice rus22 (by rw [ce3]; rfl) (by decide) (by rw [be3]; decide) opn3
theorem rown : ownKnob Tryz.prog.godebug = none := by kernel_rfl
theorem rlaid : laidOutB Tryz.prog = true := by kernel_rfl
theorem rbool : Tryz.prog.underlying 4 = some .bool := by kernel_rfl
set_option maxRecDepth 100000 in
theorem changeJoins_lifted (os : Os) (started : os.Started) (H : Type) (enc : TypeId × Value → H) :
    ReturnsInHanded {} Tryz.checked os 3 .any (Rows.changeJoinsSpec.pre6 enc Tryz.prog Tryz.f3 Rows.changeJoinsRow.domain false) (Rows.changeJoinsSpec.post enc Tryz.prog Tryz.f3 false true false false) := by
  refine returnsInHanded_of_change_sized (C := Tryz.checked) rown started (by kernel_rfl) Tryz.func3
    (ChangeSpec.witness6 (enc := enc) (C := Tryz.checked) false ⟨#[], #[.int .i64 0, .slice none 0 0, .int .i64 0], []⟩ 8 (by kernel_rfl) (by kernel_rfl) (by kernel_rfl) (by kernel_rfl)) ?_
  intro W base args ds gs before hval0 hW hcnd hsz0 _
  have hval : ∀ (j : Nat) t v, Tryz.f3.params[j]? = some t → args[j]? = some v → Value.okWide Tryz.prog W .any base t v := hval0
  have hsz : (DataW.weightsEach Tryz.prog (Tryz.f3.params.toList ++ Rows.changeJoinsSpec.plain.varTypes Tryz.prog) (ds ++ gs)).all (· ≤ reachBytes) = true := hsz0
  have hW' := hW
  obtain ⟨p, q, hA0, hV, rfl, hfz, hnd⟩ := hW
  have hA : DataW.TrodAll enc Tryz.prog W 0 (fun _ => true) true Tryz.f3.params.toList args.toList ds p := hA0
  rw [Tryz.params3] at hA hval hsz
  obtain ⟨v0, vs0, d0, ds0, p0, q0, hargs, rfl, rfl, h0, r0⟩ := trodAll_cons hA
  obtain ⟨v1, vs1, d1, ds1, p1, q1, rfl, rfl, rfl, h1, r1⟩ := trodAll_cons r0
  obtain ⟨v2, vs2, d2, ds2, p2, q2, rfl, rfl, rfl, h2, r2⟩ := trodAll_cons r1
  obtain ⟨rfl, rfl, rfl⟩ := trodAll_nil r2
  obtain rfl : args = #[v0, v1, v2] := by cases args; simp_all
  obtain ⟨rfl, rfl⟩ := trodVars_none hV
  have k0 := h0
  have lt0 : ∀ x ∈ p0, x.block < W.heap.size := by obtain ⟨m, hm⟩ := k0; exact DataW.trod_lt m _ _ _ hm
  obtain ⟨a0, rfl⟩ := okWide_int rui3 (hval 0 3 v0 rfl rfl)
  have k1 := h1
  have lt1 : ∀ x ∈ p1, x.block < W.heap.size := by obtain ⟨m, hm⟩ := k1; exact DataW.trod_lt m _ _ _ hm
  obtain ⟨A1, n1, c1, rfl⟩ := okWide_slice rus22 (hval 1 22 v1 rfl rfl)
  obtain ⟨x1, i1⟩ : ∃ x : (List Int), Rp.Is (hG W) _ x := by
    obtain ⟨m, hm⟩ := h1
    exact opn22 enc W _ m _ d1 p1 hm (fun m hm => by have := List.all_eq_true.1 hsz m (DataW.weights_mem_each (j := 1) rfl rfl m hm); simpa using this)
  obtain ⟨u1, hu1, s1⟩ := i1
  obtain rfl : Value.slice A1 n1 c1 = u1 := by simpa [Value.cells] using hu1
  have k2 := h2
  have lt2 : ∀ x ∈ p2, x.block < W.heap.size := by obtain ⟨m, hm⟩ := k2; exact DataW.trod_lt m _ _ _ hm
  obtain ⟨a2, rfl⟩ := okWide_int rui3 (hval 2 3 v2 rfl rfl)
  clear hA0 hval0
  refine Calls.mono (changeJoins_ret (hG W) W (hG_holds W) a0 _ x1 s1 a2) fun e W' ⟨he, G', hk⟩ => ?_
  subst he
  have bel := hk.below
  exact ⟨_, rfl, _, _, _, [], _, [], hW', trodAll_mk1 (shut_bool rbool _), (trodAll_cons_mk (Below.trod rlaid (by kernel_rfl) (of_decide_eq_true (by kernel_rfl)) k0 bel lt0) (trodAll_cons_mk (Below.trod rlaid (by kernel_rfl) (of_decide_eq_true (by kernel_rfl)) k1 bel lt1) (trodAll_cons_mk (Below.trod rlaid (by kernel_rfl) (of_decide_eq_true (by kernel_rfl)) k2 bel lt2) trodAll_mk0))), rfl, bel.frame _, fun h => by cases h⟩
/-- The statement. -/
theorem changeJoins_holds : Rows.ChangeJoinsSaid :=
  OpenClaim.holds_of_wide 3 Tryz.f3 rfl rfl rfl rfl rfl rfl rfl ⟨rfl, rfl, rfl, rfl, rfl⟩ rfl rfl rfl rfl rfl (by kernel_rfl) Tryz.func3 (by kernel_rfl)
    (of_decide_eq_true (by kernel_rfl)) (by unfold Func.isWrapper; first | (rw [if_pos (by decide +kernel)]; kernel_rfl) | (rw [if_neg (by decide +kernel)]; exact ⟨rfl, rfl⟩))
    (fun os started H enc _ => changeJoins_lifted os started H enc)
#print axioms changeJoins_holds
end Go.Proofs.YtpbcabanpppfoaaGreat
