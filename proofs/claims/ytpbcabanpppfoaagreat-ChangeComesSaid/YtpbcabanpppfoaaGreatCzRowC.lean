/- ChangeComes: for every input the statement answers true. No condition. -/
import Derived.Test.YtpbcabanpppfoaaGreatGxObj
import Derived.Test.YtpbcabanpppfoaaGreatCzCv
set_option linter.all false
namespace Go.Proofs.YtpbcabanpppfoaaGreat
open Go Go.Gx Go.Vz Go.RowKit Go.ChangeShapes Go.WideShapes Go.ChangeAt
theorem changeComes_ret (G : Gh) (w : World) (hH : Holds G w) (a0 : Int) (v1 : Value) (x1 : (List UInt8)) (s1 : Sl G v1 x1) : Calls Tryz.prog 6 #[.int .i64 a0, v1] w fun e w' => e = .returned (.bool true) ∧ ∃ G', Cx w G G' w' :=
  Calls.mono (cw_true (a0, x1, ()) G w [.int .i64 a0, v1] hH trivial ⟨.int .i64 a0, _, rfl, rfl, ⟨v1, _, rfl, s1, rfl⟩⟩) (by
    rintro e w' ⟨v, G', he, hk, hR⟩
    have hv : v = .bool true := hR
    subst hv
    exact ⟨he, G', hk⟩)
theorem rui3 : Tryz.prog.underlying 3 = some (.int .i64) := by kernel_rfl
theorem rui5 : Tryz.prog.underlying 5 = some (.int .u8) := by kernel_rfl
theorem opn5 : Opn Tryz.prog UInt8 5 := opnU8 rui5
theorem rus35 : Tryz.prog.underlying 35 = some (.slice 5) := by kernel_rfl
theorem ce5 : Tryz.prog.cellsOf 5 = 1 := by kernel_rfl
theorem be5 : Tryz.prog.bytesOf 5 = 1 := by kernel_rfl
theorem opn35 : Opn Tryz.prog (List UInt8) 35 := opnSlice rus35 (by rw [ce5]; rfl) (by decide) (by rw [be5]; decide) opn5
theorem rown : ownKnob Tryz.prog.godebug = none := by kernel_rfl
theorem rlaid : laidOutB Tryz.prog = true := by kernel_rfl
theorem rbool : Tryz.prog.underlying 4 = some .bool := by kernel_rfl
set_option maxRecDepth 100000 in
theorem changeComes_lifted (os : Os) (started : os.Started) (H : Type) (enc : TypeId × Value → H) :
    ReturnsInHanded {} Tryz.checked os 6 .any (Rows.changeComesSpec.pre6 enc Tryz.prog Tryz.f6 Rows.changeComesRow.domain false) (Rows.changeComesSpec.post enc Tryz.prog Tryz.f6 false true false false) := by
  refine returnsInHanded_of_change_sized (C := Tryz.checked) rown started (by kernel_rfl) Tryz.func6
    (ChangeSpec.witness6 (enc := enc) (C := Tryz.checked) false ⟨#[], #[.int .i64 0, .slice none 0 0], []⟩ 8 (by kernel_rfl) (by kernel_rfl) (by kernel_rfl) (by kernel_rfl)) ?_
  intro W base args ds gs before hval0 hW hcnd hsz0 _
  have hval : ∀ (j : Nat) t v, Tryz.f6.params[j]? = some t → args[j]? = some v → Value.okWide Tryz.prog W .any base t v := hval0
  have hsz : (DataW.weightsEach Tryz.prog (Tryz.f6.params.toList ++ Rows.changeComesSpec.plain.varTypes Tryz.prog) (ds ++ gs)).all (· ≤ reachBytes) = true := hsz0
  have hW' := hW
  obtain ⟨p, q, hA0, hV, rfl, hfz, hnd⟩ := hW
  have hA : DataW.TrodAll enc Tryz.prog W 0 (fun _ => true) true Tryz.f6.params.toList args.toList ds p := hA0
  rw [Tryz.params6] at hA hval hsz
  obtain ⟨v0, vs0, d0, ds0, p0, q0, hargs, rfl, rfl, h0, r0⟩ := trodAll_cons hA
  obtain ⟨v1, vs1, d1, ds1, p1, q1, rfl, rfl, rfl, h1, r1⟩ := trodAll_cons r0
  obtain ⟨rfl, rfl, rfl⟩ := trodAll_nil r1
  obtain rfl : args = #[v0, v1] := by cases args; simp_all
  obtain ⟨rfl, rfl⟩ := trodVars_none hV
  have k0 := h0
  have lt0 : ∀ x ∈ p0, x.block < W.heap.size := by obtain ⟨m, hm⟩ := k0; exact DataW.trod_lt m _ _ _ hm
  obtain ⟨a0, rfl⟩ := okWide_int rui3 (hval 0 3 v0 rfl rfl)
  have k1 := h1
  have lt1 : ∀ x ∈ p1, x.block < W.heap.size := by obtain ⟨m, hm⟩ := k1; exact DataW.trod_lt m _ _ _ hm
  obtain ⟨A1, n1, c1, rfl⟩ := okWide_slice rus35 (hval 1 35 v1 rfl rfl)
  obtain ⟨x1, i1⟩ : ∃ x : (List UInt8), Rp.Is (hG W) _ x := by
    obtain ⟨m, hm⟩ := h1
    exact opn35 enc W _ m _ d1 p1 hm (fun m hm => by have := List.all_eq_true.1 hsz m (DataW.weights_mem_each (j := 1) rfl rfl m hm); simpa using this)
  obtain ⟨u1, hu1, s1⟩ := i1
  obtain rfl : Value.slice A1 n1 c1 = u1 := by simpa [Value.cells] using hu1
  clear hA0 hval0
  refine Calls.mono (changeComes_ret (hG W) W (hG_holds W) a0 _ x1 s1) fun e W' ⟨he, G', hk⟩ => ?_
  subst he
  have bel := hk.below
  exact ⟨_, rfl, _, _, _, [], _, [], hW', trodAll_mk1 (shut_bool rbool _), (trodAll_cons_mk (Below.trod rlaid (by kernel_rfl) (of_decide_eq_true (by kernel_rfl)) k0 bel lt0) (trodAll_cons_mk (Below.trod rlaid (by kernel_rfl) (of_decide_eq_true (by kernel_rfl)) k1 bel lt1) trodAll_mk0)), rfl, bel.frame _, fun h => by cases h⟩
/-- The statement. -/
theorem changeComes_holds : Rows.ChangeComesSaid :=
  OpenClaim.holds_of_wide 6 Tryz.f6 rfl rfl rfl rfl rfl rfl rfl ⟨rfl, rfl, rfl, rfl, rfl⟩ rfl rfl rfl rfl rfl (by kernel_rfl) Tryz.func6 (by kernel_rfl)
    (of_decide_eq_true (by kernel_rfl)) (by unfold Func.isWrapper; first | (rw [if_pos (by decide +kernel)]; kernel_rfl) | (rw [if_neg (by decide +kernel)]; exact ⟨rfl, rfl⟩))
    (fun os started H enc _ => changeComes_lifted os started H enc)
#print axioms changeComes_holds
end Go.Proofs.YtpbcabanpppfoaaGreat
