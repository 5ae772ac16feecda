/- What functions of the slots seat return, part 8. No condition. -/
import Derived.Test.YtljcgggflgbenaaGreatDoorZlG7
import Derived.Test.YtljcgggflgbenaaGreatDoorGxRows
set_option linter.all false
namespace Go.Proofs.YtljcgggflgbenaaGreatDoor
open Go Go.Gx Go.RowKit
def emptyR (n : Nat) : RSlot := RSlot.mk (RVt.mk false 0 Dig.zero) (List.replicate n (RVt.mk false 0 Dig.zero)) (List.replicate n (RVt.mk false 0 Dig.zero)) (RVt.mk false 0 Dig.zero) []
theorem zva66 : (Tryz.prog.info? 66).bind (fun i => i.zero) = some (.agg (((RVt.mk false 0 Dig.zero)).cells).toArray) := by kernel_rfl
theorem elo67 : elemOk Tryz.prog 67 66 34 48 = true := by kernel_rfl
theorem so69 : structOk Tryz.prog 69 [(0, 34), (34, 1), (35, 1), (36, 34), (70, 1)] = true := by kernel_rfl
theorem empty_ret (G0 : Gh) (w0 : World) (hw : Holds G0 w0) (csc : List Value) (c : Crew) (hc : Rp.Is G0 csc c) (hc7 : c.nodes.length ≤ 7) :
  RetT Tryz.prog 31 #[.agg csc.toArray] G0 w0 [] (fun G L v => ∃ x : Rw, L = x.blocks ∧ v = .agg x.r.cells.toArray ∧ RwO G x (emptyR c.nodes.length)) := by
 have hC := Cx.refl hw
 have hB : Bxs G0 w0 w0.heap.size [] := Bxs.nil _ _ _
 obtain ⟨v1, rfl, hs2⟩ := Crew.opIs hc
 obtain ⟨A3, cap4, rfl⟩ := hs2.form
 refine callsOf Tryz.func31 rfl _ Tryz.ntmps31 rfl _ (argsCons argsNil (t := 0) rfl) ?_; intro Q0 hQ
 refine wcSeq <| wcRegion ?_
 refine wlBox (cs := [(.int .i64 c.faults), (.slice A3 c.nodes.length cap4)]) hC hB rfl rfl rfl ?_; intro b5 w hk hC hB
 refine wlAlloc hC hB zero69 rfl ?_; intro b6 w hk hC hB
 refine wlThen <| wcSeq ?_
 refine wcDrawS 10 [0, 1, 3, 7, 0, 16, 48, 112, 255, 511] fmix (by kernel_rfl) (by kernel_rfl) rfl hC hB ?_; intro w hC hB
 refine D_ 0 rfl rfl (fun _ => (opFieldAddr rfl fo24_1)) <| E_ 1 rfl rfl (opLoadOne (v := (.slice A3 c.nodes.length cap4)) rfl (hB.cell (i := 1) rfl rfl) one22) <| D_ 2 rfl rfl (fun _ => (opLen rfl isl22)) <| D_ 4 rfl rfl (fun _ => (opFieldAddr rfl fo24_1)) <| E_ 5 rfl rfl (opLoadOne (v := (.slice A3 c.nodes.length cap4)) rfl (hB.cell (i := 1) rfl rfl) one22) <| D_ 6 rfl rfl (fun _ => (opLen rfl isl22)) ?_
 refine wdAll [3, 7] (by kernel_rfl) rfl ⟨wd1 rfl ?_, wd1 rfl ?_, trivial⟩
 ·
  intro hGd
  refine wlMakeRows (α := RVt) (bl := [(b6, 69, ((Value.bool false) :: ((Value.int .i64 0) :: (Dig.zero.cells ++ ((Value.slice none 0 0) :: ((Value.slice none 0 0) :: ((Value.bool false) :: ((Value.int .i64 0) :: (Dig.zero.cells ++ ((Value.slice none 0 0) :: [])))))))))), (b5, 24, [(Value.int .i64 c.faults), (Value.slice A3 c.nodes.length cap4)])]) (r := []) (n := c.nodes.length) (z := (RVt.mk false 0 Dig.zero)) (zc := (((RVt.mk false 0 Dig.zero)).cells)) elo67 zva66 rfl (fun _ => rfl) hC hB rfl rfl (by omega) rfl rfl ?_; intro b7 w hC hB hO8
  refine wdNext hGd rfl (kpKeep rfl (kpDrop rfl kpNil)) (Tk.cons (p := (_, fun w => OpVal _ _ _ w _ _)) (opLoadOne (v := (.slice A3 c.nodes.length cap4)) rfl (hB.cell (i := 1) rfl rfl) one22) (Tk.nil _)) ?_
  refine wdAll [7] (by kernel_rfl) rfl ⟨wd1 rfl ?_, trivial⟩
  intro hGd
  refine wlMakeRows (α := RVt) (bl := [(b6, 69, ((Value.bool false) :: ((Value.int .i64 0) :: (Dig.zero.cells ++ ((Value.slice none 0 0) :: ((Value.slice none 0 0) :: ((Value.bool false) :: ((Value.int .i64 0) :: (Dig.zero.cells ++ ((Value.slice none 0 0) :: [])))))))))), (b5, 24, [(Value.int .i64 c.faults), (Value.slice A3 c.nodes.length cap4)])]) (r := (Option.toList ((some (b7, 66, (List.replicate c.nodes.length (((RVt.mk false 0 Dig.zero)).cells)).flatten))) ++ [])) (n := c.nodes.length) (z := (RVt.mk false 0 Dig.zero)) (zc := (((RVt.mk false 0 Dig.zero)).cells)) elo67 zva66 rfl (fun _ => rfl) hC hB rfl rfl (by omega) rfl rfl ?_; intro b9 w hC hB hO10
  refine wdNext hGd rfl (kpDrop rfl kpNil) (Tk.nil _) ?_
  refine D_ 8 rfl rfl (fun _ => (B_ (ps := [(1, .tmp 6), (2, .tmp 10)]) (cs := ((.bool false) :: ((.int .i64 0) :: (Dig.zero.cells ++ ((.slice (some ⟨b7, 0, none⟩) c.nodes.length c.nodes.length) :: ((.slice (some ⟨b9, 0, none⟩) c.nodes.length c.nodes.length) :: ((.bool false) :: ((.int .i64 0) :: (Dig.zero.cells ++ ((.slice none 0 0) :: [])))))))))) so69 zero69 rfl rfl)) ?_
  refine wdAll [9] (by kernel_rfl) rfl ⟨wd1 rfl ?_, trivial⟩
  intro hGd
  refine wlStore 0 (vs := ((.bool false) :: ((.int .i64 0) :: (Dig.zero.cells ++ ((.slice (some ⟨b7, 0, none⟩) c.nodes.length c.nodes.length) :: ((.slice (some ⟨b9, 0, none⟩) c.nodes.length c.nodes.length) :: ((.bool false) :: ((.int .i64 0) :: (Dig.zero.cells ++ ((.slice none 0 0) :: [])))))))))) (cs := ((.bool false) :: ((.int .i64 0) :: (Dig.zero.cells ++ ((.slice none 0 0) :: ((.slice none 0 0) :: ((.bool false) :: ((.int .i64 0) :: (Dig.zero.cells ++ ((.slice none 0 0) :: [])))))))))) (cs' := ((.bool false) :: ((.int .i64 0) :: (Dig.zero.cells ++ ((.slice (some ⟨b7, 0, none⟩) c.nodes.length c.nodes.length) :: ((.slice (some ⟨b9, 0, none⟩) c.nodes.length c.nodes.length) :: ((.bool false) :: ((.int .i64 0) :: (Dig.zero.cells ++ ((.slice none 0 0) :: [])))))))))) hC hB rfl rfl rfl sz69 rfl (by simp [cl_]) (by simp [cl_, Value.oneCell']) (by simp [cl_]) (by simp [cl_]) rfl ?_; intro w hC hB
  refine wdNext hGd rfl kpNil (Tk.nil _) ?_
  refine wdDone (by kernel_rfl) <| wcOf <| wcRet ?_
  obtain ⟨hC, hB⟩ := hold hC hB (i := 2) rfl
  obtain ⟨hC, hB⟩ := hold hC hB (i := 2) rfl
  exact fun ac_ ha => hQ _ _ _ (results1 ha rfl ⟨_, _, ((.bool false) :: ((.int .i64 0) :: (Dig.zero.cells ++ ((.slice (some ⟨b7, 0, none⟩) c.nodes.length c.nodes.length) :: ((.slice (some ⟨b9, 0, none⟩) c.nodes.length c.nodes.length) :: ((.bool false) :: ((.int .i64 0) :: (Dig.zero.cells ++ ((.slice none 0 0) :: []))))))))), rfl, row69, (by simp [cl_]), hB.range (i := 0) (m := 71) rfl (by simp [cl_]), rfl⟩) ha.df (endT hC [(b7, .cells (List.toArray (List.replicate c.nodes.length (((RVt.mk false 0 Dig.zero)).cells)).flatten) 66 (0, 0)), (b9, .cells (List.toArray (List.replicate c.nodes.length (((RVt.mk false 0 Dig.zero)).cells)).flatten) 66 (0, 0))] ⟨[], List.Perm.of_eq rfl⟩ ⟨⟨⟨(RVt.mk false 0 Dig.zero), ⟨b7, c.nodes.length⟩, ⟨b9, c.nodes.length⟩, (RVt.mk false 0 Dig.zero), ⟨none, 0, 0⟩⟩, (List.replicate c.nodes.length (((RVt.mk false 0 Dig.zero)).cells)).flatten, (List.replicate c.nodes.length (((RVt.mk false 0 Dig.zero)).cells)).flatten, none⟩, rfl, rfl, ⟨rfl, rfl, Ow.nil_ _ _, hO8, hO10⟩⟩)
 ·
  intro hGd
  refine wlMakeRows (α := RVt) (bl := [(b6, 69, ((Value.bool false) :: ((Value.int .i64 0) :: (Dig.zero.cells ++ ((Value.slice none 0 0) :: ((Value.slice none 0 0) :: ((Value.bool false) :: ((Value.int .i64 0) :: (Dig.zero.cells ++ ((Value.slice none 0 0) :: [])))))))))), (b5, 24, [(Value.int .i64 c.faults), (Value.slice A3 c.nodes.length cap4)])]) (r := []) (n := c.nodes.length) (z := (RVt.mk false 0 Dig.zero)) (zc := (((RVt.mk false 0 Dig.zero)).cells)) elo67 zva66 rfl (fun _ => rfl) hC hB rfl rfl (by omega) rfl rfl ?_; intro b11 w hC hB hO12
  refine wdNext hGd rfl (kpDrop rfl (kpKeep rfl kpNil)) (Tk.cons (p := (_, fun w => OpVal _ _ _ w _ _)) (opLoadOne (v := (.slice A3 c.nodes.length cap4)) rfl (hB.cell (i := 1) rfl rfl) one22) (Tk.nil _)) ?_
  refine wdAll [3] (by kernel_rfl) rfl ⟨wd1 rfl ?_, trivial⟩
  intro hGd
  refine wlMakeRows (α := RVt) (bl := [(b6, 69, ((Value.bool false) :: ((Value.int .i64 0) :: (Dig.zero.cells ++ ((Value.slice none 0 0) :: ((Value.slice none 0 0) :: ((Value.bool false) :: ((Value.int .i64 0) :: (Dig.zero.cells ++ ((Value.slice none 0 0) :: [])))))))))), (b5, 24, [(Value.int .i64 c.faults), (Value.slice A3 c.nodes.length cap4)])]) (r := (Option.toList ((some (b11, 66, (List.replicate c.nodes.length (((RVt.mk false 0 Dig.zero)).cells)).flatten))) ++ [])) (n := c.nodes.length) (z := (RVt.mk false 0 Dig.zero)) (zc := (((RVt.mk false 0 Dig.zero)).cells)) elo67 zva66 rfl (fun _ => rfl) hC hB rfl rfl (by omega) rfl rfl ?_; intro b13 w hC hB hO14
  refine wdNext hGd rfl (kpDrop rfl kpNil) (Tk.nil _) ?_
  refine D_ 8 rfl rfl (fun _ => (B_ (ps := [(1, .tmp 6), (2, .tmp 10)]) (cs := ((.bool false) :: ((.int .i64 0) :: (Dig.zero.cells ++ ((.slice (some ⟨b13, 0, none⟩) c.nodes.length c.nodes.length) :: ((.slice (some ⟨b11, 0, none⟩) c.nodes.length c.nodes.length) :: ((.bool false) :: ((.int .i64 0) :: (Dig.zero.cells ++ ((.slice none 0 0) :: [])))))))))) so69 zero69 rfl rfl)) ?_
  refine wdAll [9] (by kernel_rfl) rfl ⟨wd1 rfl ?_, trivial⟩
  intro hGd
  refine wlStore 0 (vs := ((.bool false) :: ((.int .i64 0) :: (Dig.zero.cells ++ ((.slice (some ⟨b13, 0, none⟩) c.nodes.length c.nodes.length) :: ((.slice (some ⟨b11, 0, none⟩) c.nodes.length c.nodes.length) :: ((.bool false) :: ((.int .i64 0) :: (Dig.zero.cells ++ ((.slice none 0 0) :: [])))))))))) (cs := ((.bool false) :: ((.int .i64 0) :: (Dig.zero.cells ++ ((.slice none 0 0) :: ((.slice none 0 0) :: ((.bool false) :: ((.int .i64 0) :: (Dig.zero.cells ++ ((.slice none 0 0) :: [])))))))))) (cs' := ((.bool false) :: ((.int .i64 0) :: (Dig.zero.cells ++ ((.slice (some ⟨b13, 0, none⟩) c.nodes.length c.nodes.length) :: ((.slice (some ⟨b11, 0, none⟩) c.nodes.length c.nodes.length) :: ((.bool false) :: ((.int .i64 0) :: (Dig.zero.cells ++ ((.slice none 0 0) :: [])))))))))) hC hB rfl rfl rfl sz69 rfl (by simp [cl_]) (by simp [cl_, Value.oneCell']) (by simp [cl_]) (by simp [cl_]) rfl ?_; intro w hC hB
  refine wdNext hGd rfl kpNil (Tk.nil _) ?_
  refine wdDone (by kernel_rfl) <| wcOf <| wcRet ?_
  obtain ⟨hC, hB⟩ := hold hC hB (i := 2) rfl
  obtain ⟨hC, hB⟩ := hold hC hB (i := 2) rfl
  exact fun ac_ ha => hQ _ _ _ (results1 ha rfl ⟨_, _, ((.bool false) :: ((.int .i64 0) :: (Dig.zero.cells ++ ((.slice (some ⟨b13, 0, none⟩) c.nodes.length c.nodes.length) :: ((.slice (some ⟨b11, 0, none⟩) c.nodes.length c.nodes.length) :: ((.bool false) :: ((.int .i64 0) :: (Dig.zero.cells ++ ((.slice none 0 0) :: []))))))))), rfl, row69, (by simp [cl_]), hB.range (i := 0) (m := 71) rfl (by simp [cl_]), rfl⟩) ha.df (endT hC [(b13, .cells (List.toArray (List.replicate c.nodes.length (((RVt.mk false 0 Dig.zero)).cells)).flatten) 66 (0, 0)), (b11, .cells (List.toArray (List.replicate c.nodes.length (((RVt.mk false 0 Dig.zero)).cells)).flatten) 66 (0, 0))] ⟨[], List.Perm.swap _ _ _⟩ ⟨⟨⟨(RVt.mk false 0 Dig.zero), ⟨b13, c.nodes.length⟩, ⟨b11, c.nodes.length⟩, (RVt.mk false 0 Dig.zero), ⟨none, 0, 0⟩⟩, (List.replicate c.nodes.length (((RVt.mk false 0 Dig.zero)).cells)).flatten, (List.replicate c.nodes.length (((RVt.mk false 0 Dig.zero)).cells)).flatten, none⟩, rfl, rfl, ⟨rfl, rfl, Ow.nil_ _ _, hO14, hO12⟩⟩)

end Go.Proofs.YtljcgggflgbenaaGreatDoor
