/- What functions of the marks seat return, part 0. No condition. -/
import Derived.Test.YtbmanooiphghmaaGxFour
import Derived.Test.YtbmanooiphghmaaRows
set_option linter.all false
namespace Go.Proofs.Ytbmanooiphghmaa
open Go Go.Gx Go.RowKit
structure Crew where
  faults : Int
  nodes : List Int
  deriving DecidableEq, Inhabited
instance : Rp Crew := ⟨2, fun G cs x => ∃ v0, cs = [.int .i64 x.faults, v0] ∧ Sl G v0 x.nodes, fun ⟨_, h, _⟩ => by rw [h]; simp, fun ⟨v0, h, hv0⟩ => by obtain ⟨Av0, cv0, rfl⟩ := hv0.form; rw [h]; simp [Value.oneCell'], fun hg ⟨v0, h, hv0⟩ => ⟨v0, h, hv0.mono hg⟩⟩
theorem Crew.opIs {G : Gh} {cs : List Value} {x : Crew} (h : Rp.Is G cs x) : ∃ v0, cs = [.int .i64 x.faults, v0] ∧ Sl G v0 x.nodes := h
theorem Crew.mkIs {G : Gh} {x : Crew} {v0 : Value} (hv0 : Sl G v0 x.nodes) : Rp.Is G [.int .i64 x.faults, v0] x := ⟨_, rfl, hv0⟩
structure Mark where
  seq : Int
  dig : Dig
  deriving DecidableEq, Inhabited
def Mark.cells (x : Mark) : List Value := (.int .i64 x.seq :: (x.dig.cells ++ []))
@[simp] theorem Mark.length_cells (x : Mark) : x.cells.length = 33 := by simp [Mark.cells]
instance : Rp Mark := ⟨33, fun _ cs x => cs = x.cells, fun h => by rw [h]; exact Mark.length_cells _, fun h => by rw [h]; intro u hu; simp only [Mark.cells, List.mem_cons, List.mem_append, List.not_mem_nil, or_false] at hu; rcases hu with rfl | hu <;> first | rfl | exact mem_cells _ _ hu, fun _ h => h⟩
structure Do where
  kind : Int
  node : Int
  x : Mark
  deriving DecidableEq, Inhabited
def Do.cells (x : Do) : List Value := (.int .i64 x.kind :: (.int .i64 x.node :: (.int .i64 x.x.seq :: (x.x.dig.cells ++ []))))
@[simp] theorem Do.length_cells (x : Do) : x.cells.length = 35 := by simp [Do.cells]
instance : Rp Do := ⟨35, fun _ cs x => cs = x.cells, fun h => by rw [h]; exact Do.length_cells _, fun h => by rw [h]; intro u hu; simp only [Do.cells, List.mem_cons, List.mem_append, List.not_mem_nil, or_false] at hu; rcases hu with rfl | rfl | rfl | hu <;> first | rfl | exact mem_cells _ _ hu, fun _ h => h⟩
structure Word where
  node : Int
  seq : Int
  b : UInt8
  deriving DecidableEq, Inhabited
def Word.cells (x : Word) : List Value := [.int .i64 x.node, .int .i64 x.seq, .int .u8 (x.b.toNat : Int)]
@[simp] theorem Word.length_cells (x : Word) : x.cells.length = 3 := by simp [Word.cells]
instance : Rp Word := ⟨3, fun _ cs x => cs = x.cells, fun h => by rw [h]; exact Word.length_cells _, fun h => by rw [h]; intro u hu; simp only [Word.cells, List.mem_cons, List.mem_append, List.not_mem_nil, or_false] at hu; rcases hu with rfl | rfl | rfl <;> first | rfl | exact mem_cells _ _ hu, fun _ h => h⟩
def nodeB (n : Int) : Bool := decide (1 ≤ n) && decide (n ≤ 28)
def cmpI (x y : Int) : Int := if x < y then -1 else if y < x then 1 else 0
def risesB : Int → List Int → Bool
  | _, [] => true
  | l, x :: r => bif decide (x ≤ l) || !nodeB x then false else risesB x r
def check (c : Crew) : Int := bif decide (c.faults < 0) || (decide (2 < c.faults) || ((c.nodes.length : Int) != IntKind.wrap .i64 (IntKind.wrap .i64 (3 * c.faults) + 1))) then 110 else bif risesB 0 c.nodes then 0 else 110
def bsGo (xs : List Int) (t : Int) : Nat → Nat → Nat → Nat
  | 0, i, _ => i
  | f + 1, i, j => bif decide (i < j) then (bif decide (xs.getD ((i + j) / 2) 0 < t) then bsGo xs t f ((i + j) / 2 + 1) j else bsGo xs t f i ((i + j) / 2)) else i
def bsI (xs : List Int) (t : Int) : Nat := bsGo xs t xs.length 0 xs.length
def bsF (xs : List Int) (t : Int) : Bool := decide (bsI xs t < xs.length) && (xs.getD (bsI xs t) 0 == t)
theorem bsGo_done (xs : List Int) (t : Int) (f i j : Nat) (h : ¬ i < j) : bsGo xs t f i j = i := by
  cases f with
  | zero => rfl
  | succ f => simp [bsGo, h]
theorem bsGo_step (xs : List Int) (t : Int) (f i j : Nat) (h : i < j) (hf : j ≤ i + f) {x : Int} (hx : xs[(i + j) / 2]? = some x) :
    bsGo xs t f i j = bif decide (x < t) then bsGo xs t (f - 1) ((i + j) / 2 + 1) j else bsGo xs t (f - 1) i ((i + j) / 2) := by
  cases f with
  | zero => omega
  | succ f => simp [bsGo, h, hx]
def orI : List Int → Int
  | [] => 0
  | x :: r => bif x != 0 then x else orI r
def idxG {α : Type} (p : α → Bool) : List α → Nat → Int
  | [], _ => -1
  | x :: r, k => bif p x then (k : Int) else idxG p r (k + 1)
def has (c : Crew) (n : Int) : Bool := (check c == 0) && bsF c.nodes n
theorem drop_getD {α : Type} [Inhabited α] (l : List α) {d : α} (k : Nat) (h : k < l.length) : l.drop k = l.getD k d :: l.drop (k + 1) := by
  rw [List.drop_eq_getElem_cons h]; simp [List.getD_eq_getElem?_getD, h]
def lessB : List UInt8 → List UInt8 → Bool
  | x :: a, y :: b => bif ((x.toNat : Int)) != ((y.toNat : Int)) then decide ((x.toNat : Int) < (y.toNat : Int)) else lessB a b
  | _, _ => false
def prevI (l : List Int) : Nat → Int
  | 0 => 0
  | k + 1 => l.getD k 0
theorem prevI_0 {l : List Int} : prevI l 0 = 0 := rfl
theorem prevI_succ {l : List Int} {k : Nat} {x : Int} (h : l[k]? = some x) : prevI l (k + 1) = x := by simp [prevI, h]
theorem prevI_of {l : List Int} {k : Nat} {x : Int} (h0 : 0 < k) (h : l[k - 1]? = some x) : prevI l k = x := by
  cases k with
  | zero => omega
  | succ k => simpa [prevI] using congrArg (·.getD 0) h
theorem nodeB_pos {x : Int} (h : nodeB x = true) : decide (x ≤ 0) = false := by
  simp [nodeB] at h; simp; omega
def most (c : Crew) : Int := bif check c != 0 then 0 else IntKind.wrap .i64 (IntKind.wrap .i64 (2 * c.faults) + 1)
def some_ (c : Crew) : Int := bif check c != 0 then 0 else IntKind.wrap .i64 (c.faults + 1)

def bringI (n m : Int) : Int := bif decide (m ≤ 0) then 0 else bif decide (Int.tmod n m < 0) then IntKind.wrap .i64 (Int.tmod n m + m) else Int.tmod n m
def crewI (f : Int) : Crew := ⟨f, (List.range (3 * f.toNat + 1)).map (fun i => ((i + 1 : Nat) : Int))⟩
def dig7 (x : UInt8) : Dig := ⟨x :: 7 :: List.replicate 30 0, rfl⟩
def markI (sq : Int) (b : UInt8) : Mark := ⟨sq, dig7 b⟩
def mayB (n : Int) : Bool := decide (0 ≤ n) && decide (n ≤ 9007199254740991)
theorem co52 : callOk Try.prog 52 = true := by kernel_rfl
theorem fo24_0 : fieldOk Try.prog 24 0 0 = true := by kernel_rfl
theorem one3 : oneOk Try.prog 3 = true := by kernel_rfl
theorem fo24_1 : fieldOk Try.prog 24 1 1 = true := by kernel_rfl
theorem one22 : oneOk Try.prog 22 = true := by kernel_rfl
theorem isl22 : isSlice Try.prog 22 = true := by kernel_rfl
theorem slo22 : sliceOk Try.prog 22 3 1 = true := by kernel_rfl
theorem co49 : callOk Try.prog 49 = true := by kernel_rfl
theorem co62 : callOk Try.prog 62 = true := by kernel_rfl
theorem un3 : (Try.prog.underlying 3).isSome = true := by kernel_rfl
theorem ui83 : Try.prog.underlying 83 = some (.int .u64) := by kernel_rfl
theorem un83 : (Try.prog.underlying 83).isSome = true := by kernel_rfl
theorem ui3 : Try.prog.underlying 3 = some (.int .i64) := by kernel_rfl
theorem co61 : callOk Try.prog 61 = true := by kernel_rfl
theorem co51 : callOk Try.prog 51 = true := by kernel_rfl
theorem row24 : rowOk Try.prog 24 2 = true := by kernel_rfl
theorem co27 : callOk Try.prog 27 = true := by kernel_rfl
theorem ext66b : Try.f66.body.isNone = true := by kernel_rfl
theorem ext66n : (Try.f66.name == "runtime.NumGoroutine") = false := by kernel_rfl
theorem ext66x : (Extern.findNext Try.f66).isNone = true := by kernel_rfl
theorem ext66f : Extern.find Try.f66 = some Extern.BytealgCompare.compare := by kernel_rfl
theorem node_ret (G0 : Gh) (w0 : World) (hw : Holds G0 w0) (n : Int) :
    RetS Try.prog 49 #[.int .i64 n] G0 w0 (.bool (nodeB n)) := by
  have hC := Cx.refl hw
  have hB : Bxs G0 w0 w0.heap.size [] := Bxs.nil _ _ _
  refine callsOf Try.func49 rfl _ Try.ntmps49 rfl _ (argsCons argsNil (t := 0) rfl) ?_; intro Q0 hQ
  refine wcSeq ?_
  refine wcRegion ?_
  refine wlVal (opAssign rfl) rfl ?_
  refine wlThen ?_
  refine wcSeq ?_
  refine wcRegion ?_
  refine wlVal (opMove rfl) rfl ?_
  refine wlVal (opGeq rfl rfl) rfl ?_
  refine wlVal (opMove rfl) rfl ?_
  cases h1 : decide (1 ≤ n)
  · skip
    refine wlOff rfl rfl rfl rfl ?_
    refine wlOff rfl rfl rfl rfl ?_
    refine wlVal (opPickF rfl rfl) rfl ?_
    refine wlVal (opAssign rfl) rfl ?_
    refine wlThen ?_
    refine wcRet ?_
    exact fun ac_ ha => hQ _ _ _ (results1 ha rfl rfl) ha.df (endS hC hw (by simp [nodeB, *]))
  · skip
    refine wlOn rfl rfl ?_
    refine wlVal (opMove rfl) rfl ?_
    refine wlOn rfl rfl ?_
    refine wlVal (opLeq rfl rfl) rfl ?_
    refine wlVal (opPickT rfl rfl) rfl ?_
    refine wlVal (opAssign rfl) rfl ?_
    refine wlThen ?_
    refine wcRet ?_
    exact fun ac_ ha => hQ _ _ _ (results1 ha rfl rfl) ha.df (endS hC hw (by simp [nodeB, *]))

theorem isNaN_ret (G0 : Gh) (w0 : World) (hw : Holds G0 w0) (n : Int) :
    RetS Try.prog 62 #[.int .i64 n] G0 w0 (.bool false) := by
  have hC := Cx.refl hw
  have hB : Bxs G0 w0 w0.heap.size [] := Bxs.nil _ _ _
  refine callsOf Try.func62 rfl _ Try.ntmps62 rfl _ (argsCons argsNil (t := 0) rfl) ?_; intro Q0 hQ
  refine wcSeq ?_
  refine wcRegion ?_
  refine wlVal (opAssign rfl) rfl ?_
  refine wlThen ?_
  refine wcSeq ?_
  refine wcRegion ?_
  refine wlVal (opMove rfl) rfl ?_
  refine wlVal (opMove rfl) rfl ?_
  refine wlVal (opNeq rfl rfl) rfl ?_
  refine wlVal (opAssign rfl) rfl ?_
  refine wlThen ?_
  refine wcRet ?_
  exact fun ac_ ha => hQ _ _ _ (results1 ha rfl rfl) ha.df (endS hC hw (by simp))

theorem isNaN2_ret (G0 : Gh) (w0 : World) (hw : Holds G0 w0) (n : Int) :
    RetS Try.prog 52 #[.int .i64 n] G0 w0 (.bool false) := by
  have hC := Cx.refl hw
  have hB : Bxs G0 w0 w0.heap.size [] := Bxs.nil _ _ _
  refine callsOf Try.func52 rfl _ Try.ntmps52 rfl _ (argsCons argsNil (t := 0) rfl) ?_; intro Q0 hQ
  refine wcSeq ?_
  refine wcRegion ?_
  refine wlVal (opAssign rfl) rfl ?_
  refine wlThen ?_
  refine wcSeq ?_
  refine wcRegion ?_
  refine wlVal (opMove rfl) rfl ?_
  refine wlVal (opMove rfl) rfl ?_
  refine wlVal (opNeq rfl rfl) rfl ?_
  refine wlVal (opAssign rfl) rfl ?_
  refine wlThen ?_
  refine wcRet ?_
  exact fun ac_ ha => hQ _ _ _ (results1 ha rfl rfl) ha.df (endS hC hw (by simp))

theorem less_ret (G0 : Gh) (w0 : World) (hw : Holds G0 w0) (x : Int) (y : Int) :
    RetS Try.prog 61 #[.int .i64 x, .int .i64 y] G0 w0 (.bool (decide (x < y))) := by
  have hC := Cx.refl hw
  have hB : Bxs G0 w0 w0.heap.size [] := Bxs.nil _ _ _
  refine callsOf Try.func61 rfl _ Try.ntmps61 rfl _ (argsCons (argsCons argsNil (t := 0) rfl) (t := 1) rfl) ?_; intro Q0 hQ
  refine wcSeq ?_
  refine wcRegion ?_
  refine wlVal (opAssign rfl) rfl ?_
  refine wlThen ?_
  refine wcSeq ?_
  refine wcRegion ?_
  refine wlVal (opMove rfl) rfl ?_
  refine wlCallS hC hB rfl co52 rfl rfl (isNaN2_ret _ _ hC.holds x) ?_; intro w hk hC hB
  refine wlVal (opMove rfl) rfl ?_
  refine wlOff rfl rfl rfl rfl ?_
  refine wlOff rfl rfl rfl rfl ?_
  refine wlOff rfl rfl rfl rfl ?_
  refine wlVal (opPickF rfl rfl) rfl ?_
  refine wlVal (opMove rfl) rfl ?_
  refine wlOn rfl rfl ?_
  refine wlVal (opMove rfl) rfl ?_
  refine wlOn rfl rfl ?_
  refine wlVal (opMove rfl) rfl ?_
  refine wlOn rfl rfl ?_
  refine wlVal (opLss rfl rfl) rfl ?_
  refine wlVal (opPickF rfl rfl) rfl ?_
  refine wlVal (opAssign rfl) rfl ?_
  refine wlThen ?_
  refine wcRet ?_
  exact fun ac_ ha => hQ _ _ _ (results1 ha rfl rfl) ha.df (endS hC hw (by simp [*]))

theorem compare_ret (G0 : Gh) (w0 : World) (hw : Holds G0 w0) (x : Int) (y : Int) :
    RetS Try.prog 36 #[.int .i64 x, .int .i64 y] G0 w0 (.int .i64 (cmpI x y)) := by
  have hC := Cx.refl hw
  have hB : Bxs G0 w0 w0.heap.size [] := Bxs.nil _ _ _
  refine callsOf Try.func36 rfl _ Try.ntmps36 rfl _ (argsCons (argsCons argsNil (t := 0) rfl) (t := 1) rfl) ?_; intro Q0 hQ
  refine wcSeq ?_
  refine wcRegion ?_
  refine wlVal (opAssign rfl) rfl ?_
  refine wlThen ?_
  refine wcSeq ?_
  refine wcRegion ?_
  refine wlVal (opMove rfl) rfl ?_
  refine wlCallS hC hB rfl co52 rfl rfl (isNaN2_ret _ _ hC.holds x) ?_; intro w hk hC hB
  refine wlVal (opAssign rfl) rfl ?_
  refine wlThen ?_
  refine wcSeq ?_
  refine wcRegion ?_
  refine wlVal (opMove rfl) rfl ?_
  refine wlCallS hC hB rfl co52 rfl rfl (isNaN2_ret _ _ hC.holds y) ?_; intro w hk hC hB
  refine wlVal (opAssign rfl) rfl ?_
  refine wlThen ?_
  refine wcSeq ?_
  refine wcSeq ?_
  refine wcRegion ?_
  refine wlVal (opMove rfl) rfl ?_
  refine wlThen ?_
  refine wcCondF rfl ?_
  refine wcSkip ?_
  refine wcOf ?_
  refine wcSeq ?_
  refine wcSeq ?_
  refine wcRegion ?_
  refine wlVal (opMove rfl) rfl ?_
  refine wlThen ?_
  refine wcCondF rfl ?_
  refine wcSkip ?_
  refine wcOf ?_
  refine wcSeq ?_
  refine wcSeq ?_
  refine wcRegion ?_
  refine wlVal (opMove rfl) rfl ?_
  refine wlVal (opMove rfl) rfl ?_
  refine wlVal (opLss rfl rfl) rfl ?_
  refine wlThen ?_
  cases h1 : decide (x < y)
  · skip
    refine wcCondF rfl ?_
    refine wcSkip ?_
    refine wcOf ?_
    refine wcSeq ?_
    refine wcSeq ?_
    refine wcRegion ?_
    refine wlVal (opMove rfl) rfl ?_
    refine wlVal (opMove rfl) rfl ?_
    refine wlVal (opGtr rfl rfl) rfl ?_
    refine wlThen ?_
    cases h2 : decide (y < x)
    · skip
      refine wcCondF rfl ?_
      refine wcSkip ?_
      refine wcOf ?_
      refine wcSeq ?_
      refine wcRegion ?_
      refine wlVal (opAssign rfl) rfl ?_
      refine wlThen ?_
      refine wcRet ?_
      exact fun ac_ ha => hQ _ _ _ (results1 ha rfl rfl) ha.df (endS hC hw (by first | (simp_all [cmpI]; done) | (simp at *; unfold cmpI; (repeat split) <;> omega)))
    · skip
      refine wcCondT rfl ?_
      refine wcSeq ?_
      refine wcRegion ?_
      refine wlVal (opAssign rfl) rfl ?_
      refine wlThen ?_
      refine wcRet ?_
      exact fun ac_ ha => hQ _ _ _ (results1 ha rfl rfl) ha.df (endS hC hw (by first | (simp_all [cmpI]; done) | (simp at *; unfold cmpI; (repeat split) <;> omega)))
  · skip
    refine wcCondT rfl ?_
    refine wcSeq ?_
    refine wcRegion ?_
    refine wlVal (opAssign rfl) rfl ?_
    refine wlThen ?_
    refine wcRet ?_
    exact fun ac_ ha => hQ _ _ _ (results1 ha rfl rfl) ha.df (endS hC hw (by first | (simp_all [cmpI]; done) | (simp at *; unfold cmpI; (repeat split) <;> omega)))

theorem check_ret (G0 : Gh) (w0 : World) (hw : Holds G0 w0) (csc : List Value) (c : Crew) (hc : Rp.Is G0 csc c) :
    RetS Try.prog 27 #[.agg csc.toArray] G0 w0 (.int .i64 (check c)) := by
  have hC := Cx.refl hw
  have hB : Bxs G0 w0 w0.heap.size [] := Bxs.nil _ _ _
  obtain ⟨v1, rfl, hs2⟩ := Crew.opIs hc
  obtain ⟨A3, cap4, rfl⟩ := hs2.form
  refine callsOf Try.func27 rfl _ Try.ntmps27 rfl _ (argsCons argsNil (t := 0) rfl) ?_; intro Q0 hQ
  refine wcSeq ?_
  refine wcRegion ?_
  refine wlBox (cs := [(.int .i64 c.faults), (.slice A3 c.nodes.length cap4)]) hC hB rfl rfl rfl ?_; intro b5 w hk hC hB
  refine wlVal (opAssign rfl) rfl ?_
  refine wlThen ?_
  refine wcSeq ?_
  refine wcSeq ?_
  refine wcRegion ?_
  refine wlVal (opFieldAddr rfl fo24_0) rfl ?_
  refine wlVal (opLoadOne (v := (.int .i64 c.faults)) rfl (hB.cell (i := 0) rfl rfl) one3) rfl ?_
  refine wlVal (opLss rfl rfl) rfl ?_
  refine wlVal (opMove rfl) rfl ?_
  cases h6 : decide (c.faults < 0)
  · skip
    refine wlOn rfl rfl ?_
    refine wlVal (opFieldAddr rfl fo24_0) rfl ?_
    refine wlOn rfl rfl ?_
    refine wlVal (opLoadOne (v := (.int .i64 c.faults)) rfl (hB.cell (i := 0) rfl rfl) one3) rfl ?_
    refine wlOn rfl rfl ?_
    refine wlVal (opGtr rfl rfl) rfl ?_
    refine wlVal (opPickF rfl rfl) rfl ?_
    refine wlVal (opMove rfl) rfl ?_
    cases h7 : decide (2 < c.faults)
    · skip
      refine wlOn rfl rfl ?_
      refine wlVal (opFieldAddr rfl fo24_1) rfl ?_
      refine wlOn rfl rfl ?_
      refine wlVal (opLoadOne (v := (.slice A3 c.nodes.length cap4)) rfl (hB.cell (i := 0) rfl rfl) one22) rfl ?_
      refine wlOn rfl rfl ?_
      refine wlVal (opLen rfl isl22) rfl ?_
      refine wlOn rfl rfl ?_
      refine wlVal (opFieldAddr rfl fo24_0) rfl ?_
      refine wlOn rfl rfl ?_
      refine wlVal (opLoadOne (v := (.int .i64 c.faults)) rfl (hB.cell (i := 0) rfl rfl) one3) rfl ?_
      refine wlOn rfl rfl ?_
      refine wlVal (opMul rfl rfl) rfl ?_
      refine wlOn rfl rfl ?_
      refine wlVal (opAdd rfl rfl) rfl ?_
      refine wlOn rfl rfl ?_
      refine wlVal (opNeq rfl rfl) rfl ?_
      refine wlVal (opPickF rfl rfl) rfl ?_
      refine wlThen ?_
      cases h8 : (((c.nodes.length : Nat) : Int)) != (IntKind.wrap .i64 (IntKind.wrap .i64 (3 * c.faults) + 1))
      · skip
        refine wcCondF rfl ?_
        refine wcSkip ?_
        refine wcOf ?_
        refine wcSeq ?_
        refine wcRegion ?_
        refine wlVal (opAssign rfl) rfl ?_
        refine wlThen ?_
        refine wcSeq ?_
        refine wcSeq ?_
        refine wcRegion ?_
        refine wlVal (opFieldAddr rfl fo24_1) rfl ?_
        refine wlVal (opLoadOne (v := (.slice A3 c.nodes.length cap4)) rfl (hB.cell (i := 0) rfl rfl) one22) rfl ?_
        refine wlVal (opLen rfl isl22) rfl ?_
        refine wlVal (opMove rfl) rfl ?_
        refine wlThen ?_
        refine wcBlock ?_
        refine WC.sub (wrInd (ι := Nat × Int) (fun i => match i with | (k, last) => c.nodes.length - k) (fun i G w => match i with | (k, last) => Cx w0 G0 G w ∧ Bxs G w w0.heap.size [(b5, 24, [(.int .i64 c.faults), (.slice A3 c.nodes.length cap4)])] ∧ Sl G (.slice A3 c.nodes.length cap4) c.nodes ∧ risesB last (c.nodes.drop k) = risesB 0 c.nodes) (fun i => match i with | (k, last) => ((((Env.nil.put 3 (.int .i64 last)).put 25 (.slice A3 c.nodes.length cap4)).put 26 (.int .i64 (((c.nodes.length : Nat) : Int)))).put 27 (.int .i64 (((k : Nat) : Int))))) ?_ (0, 0) _ _ ⟨hC, hB, hs2, rfl⟩) (fun _ ha => ((((ha.start.cons ha (t := 3) rfl).cons ha (t := 25) rfl).cons ha (t := 26) rfl).cons ha (t := 27) rfl))
        rintro ⟨k, last⟩ G w N0 IH0 ⟨hC, hB, hs2, hI⟩
        show WC _ _ _ _ ((((Env.nil.put 3 (.int .i64 last)).put 25 (.slice A3 c.nodes.length cap4)).put 26 (.int .i64 (((c.nodes.length : Nat) : Int)))).put 27 (.int .i64 (((k : Nat) : Int)))) w
        refine wcSeq ?_
        refine wcRegion ?_
        refine wlVal (opLssN rfl rfl) rfl ?_
        refine wlThen ?_
        refine wcSeq ?_
        cases h9 : decide (k < c.nodes.length)
        · skip
          refine wcCondF rfl ?_
          refine wcExit ?_
          refine wcOf ?_
          refine wcSeq ?_
          refine wcRegion ?_
          refine wlVal (opAssign rfl) rfl ?_
          refine wlThen ?_
          refine wcRet ?_
          exact fun ac_ ha => hQ _ _ _ (results1 ha rfl rfl) ha.df (endS hC hw (by have e := hI; rw [List.drop_eq_nil_of_le (Nat.le_of_not_lt (of_decide_eq_false h9))] at e; simp [risesB, h6, h7, h8, h9] at e; simp [check, h6, h7, h8, h9, e]))
        · skip
          refine wcCondT rfl ?_
          refine wcSkip ?_
          refine wcOf ?_
          refine wcSeq ?_
          refine wcBlock ?_
          refine wcSeq ?_
          refine wcRegion ?_
          obtain ⟨x10, hx11⟩ : ∃ y_, c.nodes[k]? = some y_ := ⟨_, List.getElem?_eq_getElem (of_decide_eq_true h9)⟩
          obtain ⟨b12, o13, row14, hA17, hr15, hi16⟩ := hs2.elem hx11; subst hA17
          obtain rfl := hi16
          refine wlVal (opIndexAddr rfl rfl slo22 (of_decide_eq_true h9)) rfl ?_
          refine wlVal (opLoadOne (v := (.int .i64 x10)) rfl (RowG.cell0 hC.holds hr15 rfl) one3) rfl ?_
          refine wlVal (opAssign rfl) rfl ?_
          refine wlThen ?_
          refine wcSeq ?_
          refine wcSeq ?_
          refine wcRegion ?_
          refine wlVal (opMove rfl) rfl ?_
          refine wlVal (opMove rfl) rfl ?_
          refine wlVal (opLeq rfl rfl) rfl ?_
          refine wlVal (opMove rfl) rfl ?_
          cases h18 : decide (x10 ≤ last)
          · skip
            refine wlOn rfl rfl ?_
            refine wlVal (opMove rfl) rfl ?_
            refine wlOn rfl rfl ?_
            refine wlCallS hC hB rfl co49 rfl rfl (node_ret _ _ hC.holds x10) ?_; intro w hk hC hB
            refine wlOn rfl rfl ?_
            refine wlVal (opNot rfl) rfl ?_
            refine wlVal (opPickF rfl rfl) rfl ?_
            refine wlThen ?_
            cases h19 : (nodeB x10)
            · skip
              refine wcCondT rfl ?_
              refine wcSeq ?_
              refine wcRegion ?_
              refine wlVal (opAssign rfl) rfl ?_
              refine wlThen ?_
              refine wcRet ?_
              exact fun ac_ ha => hQ _ _ _ (results1 ha rfl rfl) ha.df (endS hC hw (by have e := hI; rw [drop_get hx11] at e; simp [risesB, h6, h7, h8, h9, h18, h19] at e; simp [check, h6, h7, h8, h9, h18, h19, e]))
            · skip
              refine wcCondF rfl ?_
              refine wcSkip ?_
              refine wcOf ?_
              refine wcRegion ?_
              refine wlVal (opMove rfl) rfl ?_
              refine wlVal (opAssign rfl) rfl ?_
              refine wlNil ?_
              refine wcOf ?_
              refine wcRegion ?_
              refine wlVal (opIncr rfl rfl (incr_ok (of_decide_eq_true h9) hs2.le)) rfl ?_
              refine wlVal (opMove rfl) rfl ?_
              refine wlRound ?_
              exact (IH0 (k + 1, x10) _ _ ⟨hC, hB, hs2, (by rw [← hI, drop_get hx11]; simp [risesB, h6, h7, h8, h9, h18, h19])⟩ (by have := of_decide_eq_true h9; simp; omega)).sub (fun _ ha => ((((ha.start.cons ha (t := 3) rfl).cons ha (t := 25) rfl).cons ha (t := 26) rfl).cons ha (t := 27) rfl))
          · skip
            refine wlOff rfl rfl rfl rfl ?_
            refine wlOff rfl rfl rfl rfl ?_
            refine wlOff rfl rfl rfl rfl ?_
            refine wlVal (opPickT rfl rfl) rfl ?_
            refine wlThen ?_
            refine wcCondT rfl ?_
            refine wcSeq ?_
            refine wcRegion ?_
            refine wlVal (opAssign rfl) rfl ?_
            refine wlThen ?_
            refine wcRet ?_
            exact fun ac_ ha => hQ _ _ _ (results1 ha rfl rfl) ha.df (endS hC hw (by have e := hI; rw [drop_get hx11] at e; simp [risesB, h6, h7, h8, h9, h18] at e; simp [check, h6, h7, h8, h9, h18, e]))
      · skip
        refine wcCondT rfl ?_
        refine wcSeq ?_
        refine wcRegion ?_
        refine wlVal (opAssign rfl) rfl ?_
        refine wlThen ?_
        refine wcRet ?_
        exact fun ac_ ha => hQ _ _ _ (results1 ha rfl rfl) ha.df (endS hC hw (by simp [check, h6, h7, h8]))
    · skip
      refine wlOff rfl rfl rfl rfl ?_
      refine wlOff rfl rfl rfl rfl ?_
      refine wlOff rfl rfl rfl rfl ?_
      refine wlOff rfl rfl rfl rfl ?_
      refine wlOff rfl rfl rfl rfl ?_
      refine wlOff rfl rfl rfl rfl ?_
      refine wlOff rfl rfl rfl rfl ?_
      refine wlOff rfl rfl rfl rfl ?_
      refine wlVal (opPickT rfl rfl) rfl ?_
      refine wlThen ?_
      refine wcCondT rfl ?_
      refine wcSeq ?_
      refine wcRegion ?_
      refine wlVal (opAssign rfl) rfl ?_
      refine wlThen ?_
      refine wcRet ?_
      exact fun ac_ ha => hQ _ _ _ (results1 ha rfl rfl) ha.df (endS hC hw (by simp [check, h6, h7]))
  · skip
    refine wlOff rfl rfl rfl rfl ?_
    refine wlOff rfl rfl rfl rfl ?_
    refine wlOff rfl rfl rfl rfl ?_
    refine wlVal (opPickT rfl rfl) rfl ?_
    refine wlVal (opMove rfl) rfl ?_
    refine wlOff rfl rfl rfl rfl ?_
    refine wlOff rfl rfl rfl rfl ?_
    refine wlOff rfl rfl rfl rfl ?_
    refine wlOff rfl rfl rfl rfl ?_
    refine wlOff rfl rfl rfl rfl ?_
    refine wlOff rfl rfl rfl rfl ?_
    refine wlOff rfl rfl rfl rfl ?_
    refine wlOff rfl rfl rfl rfl ?_
    refine wlVal (opPickT rfl rfl) rfl ?_
    refine wlThen ?_
    refine wcCondT rfl ?_
    refine wcSeq ?_
    refine wcRegion ?_
    refine wlVal (opAssign rfl) rfl ?_
    refine wlThen ?_
    refine wcRet ?_
    exact fun ac_ ha => hQ _ _ _ (results1 ha rfl rfl) ha.df (endS hC hw (by simp [check, h6]))

theorem bs_ret (G0 : Gh) (w0 : World) (hw : Holds G0 w0) (vxs : Value) (xs : List Int) (hxs : Sl G0 vxs xs) (t : Int) :
    RetS Try.prog 51 #[vxs, .int .i64 t] G0 w0 (.tuple #[(.int .i64 (((bsI xs t : Nat) : Int))), (.bool (bsF xs t))]) := by
  have hC := Cx.refl hw
  have hB : Bxs G0 w0 w0.heap.size [] := Bxs.nil _ _ _
  obtain ⟨A1, cap2, rfl⟩ := hxs.form
  refine callsOf Try.func51 rfl _ Try.ntmps51 rfl _ (argsCons (argsCons argsNil (t := 0) rfl) (t := 1) rfl) ?_; intro Q0 hQ
  refine wcSeq ?_
  refine wcRegion ?_
  refine wlVal (opAssign rfl) rfl ?_
  refine wlVal (opAssign rfl) rfl ?_
  refine wlThen ?_
  refine wcSeq ?_
  refine wcRegion ?_
  refine wlVal (opMove rfl) rfl ?_
  refine wlVal (opLen rfl isl22) rfl ?_
  refine wlVal (opAssign rfl) rfl ?_
  refine wlThen ?_
  refine wcSeq ?_
  refine wcRegion ?_
  refine wlVal (opMove rfl) rfl ?_
  refine wlVal (opAssign rfl) rfl ?_
  refine wlVal (opAssign rfl) rfl ?_
  refine wlThen ?_
  refine wcSeq ?_
  refine wcBlock ?_
  refine WC.sub (wrInd (ι := Nat × Nat × Nat) (fun i => match i with | (i, j, f) => j - i) (fun i G w => match i with | (i, j, f) => Cx w0 G0 G w ∧ Bxs G w w0.heap.size [] ∧ Sl G (.slice A1 xs.length cap2) xs ∧ j ≤ xs.length ∧ j ≤ i + f ∧ bsGo xs t f i j = bsI xs t) (fun i => match i with | (i, j, f) => (((((Env.nil.put 0 (.slice A1 xs.length cap2)).put 1 (.int .i64 t)).put 6 (.int .i64 (((xs.length : Nat) : Int)))).put 7 (.int .i64 (((i : Nat) : Int)))).put 8 (.int .i64 (((j : Nat) : Int))))) ?_ (0, xs.length, xs.length) _ _ ⟨hC, hB, hxs, (Nat.le_refl _), (by omega), rfl⟩) (fun _ ha => (((((ha.start.cons ha (t := 0) rfl).cons ha (t := 1) rfl).cons ha (t := 6) rfl).cons ha (t := 7) rfl).cons ha (t := 8) rfl))
  rintro ⟨i, j, f⟩ G w N0 IH0 ⟨hC, hB, hxs, hj, hf, hI⟩
  show WC _ _ _ _ (((((Env.nil.put 0 (.slice A1 xs.length cap2)).put 1 (.int .i64 t)).put 6 (.int .i64 (((xs.length : Nat) : Int)))).put 7 (.int .i64 (((i : Nat) : Int)))).put 8 (.int .i64 (((j : Nat) : Int)))) w
  refine wcSeq ?_
  refine wcSeq ?_
  refine wcRegion ?_
  refine wlVal (opMove rfl) rfl ?_
  refine wlVal (opMove rfl) rfl ?_
  refine wlVal (opLssN rfl rfl) rfl ?_
  refine wlThen ?_
  cases h3 : decide (i < j)
  · skip
    refine wcCondF rfl ?_
    refine wcExit ?_
    refine wcOf ?_
    refine wcSeq ?_
    refine wcRegion ?_
    refine wlVal (opMove rfl) rfl ?_
    refine wlVal (opMove rfl) rfl ?_
    refine wlVal (opMove rfl) rfl ?_
    refine wlVal (opLssN rfl rfl) rfl ?_
    refine wlVal (opMove rfl) rfl ?_
    cases h4 : decide (i < xs.length)
    · skip
      refine wlOff rfl rfl rfl rfl ?_
      refine wlOff rfl rfl rfl rfl ?_
      refine wlOff rfl rfl rfl rfl ?_
      refine wlOff rfl rfl rfl rfl ?_
      refine wlOff rfl rfl rfl rfl ?_
      refine wlOff rfl rfl rfl rfl ?_
      refine wlOff rfl rfl rfl rfl ?_
      refine wlOffU rfl rfl rfl ?_
      refine wlOffU rfl rfl rfl ?_
      refine wlOffU rfl rfl rfl ?_
      refine wlOffU rfl rfl rfl ?_
      refine wlOffU rfl rfl rfl ?_
      refine wlOffU rfl rfl rfl ?_
      refine wlOffU rfl rfl rfl ?_
      refine wlOffU rfl rfl rfl ?_
      refine wlOffU rfl rfl rfl ?_
      refine wlOff rfl rfl rfl rfl ?_
      refine wlVal (opPickF rfl rfl) rfl ?_
      refine wlVal (opAssign rfl) rfl ?_
      refine wlVal (opAssign rfl) rfl ?_
      refine wlThen ?_
      refine wcRet ?_
      exact fun ac_ ha => hQ _ _ _ (results2 ha rfl rfl rfl) ha.df (endS hC hw (by have e := bsGo_done xs t f i j (of_decide_eq_false h3); rw [hI] at e; simp [bsF, h3, h4, e]))
    · skip
      refine wlOn rfl rfl ?_
      refine wlVal (opMove rfl) rfl ?_
      refine wlOn rfl rfl ?_
      refine wlVal (opMove rfl) rfl ?_
      refine wlOn rfl rfl ?_
      obtain ⟨x5, hx6⟩ : ∃ y_, xs[i]? = some y_ := ⟨_, List.getElem?_eq_getElem (of_decide_eq_true h4)⟩
      obtain ⟨b7, o8, row9, hA12, hr10, hi11⟩ := hxs.elem hx6; subst hA12
      obtain rfl := hi11
      refine wlVal (opIndexAddr rfl rfl slo22 (of_decide_eq_true h4)) rfl ?_
      refine wlOn rfl rfl ?_
      refine wlVal (opLoadOne (v := (.int .i64 x5)) rfl (RowG.cell0 hC.holds hr10 rfl) one3) rfl ?_
      refine wlOn rfl rfl ?_
      refine wlVal (opMove rfl) rfl ?_
      refine wlOn rfl rfl ?_
      refine wlVal (opEql rfl rfl) rfl ?_
      refine wlOn rfl rfl ?_
      refine wlVal (opMove rfl) rfl ?_
      cases h13 : x5 == t
      · skip
        refine wlOn rfl rfl ?_
        refine wlVal (opMove rfl) rfl ?_
        refine wlOn rfl rfl ?_
        refine wlVal (opMove rfl) rfl ?_
        refine wlOn rfl rfl ?_
        refine wlVal (opIndexAddr rfl rfl slo22 (of_decide_eq_true h4)) rfl ?_
        refine wlOn rfl rfl ?_
        refine wlVal (opLoadOne (v := (.int .i64 x5)) rfl (RowG.cell0 hC.holds hr10 rfl) one3) rfl ?_
        refine wlOn rfl rfl ?_
        refine wlCallS hC hB rfl co62 rfl rfl (isNaN_ret _ _ hC.holds x5) ?_; intro w hk hC hB
        refine wlOn rfl rfl ?_
        refine wlVal (opMove rfl) rfl ?_
        refine wlOff rfl rfl rfl rfl ?_
        refine wlOff rfl rfl rfl rfl ?_
        refine wlOn rfl rfl ?_
        refine wlVal (opPickF rfl rfl) rfl ?_
        refine wlOn rfl rfl ?_
        refine wlVal (opPickF rfl rfl) rfl ?_
        refine wlVal (opPickT rfl rfl) rfl ?_
        refine wlVal (opAssign rfl) rfl ?_
        refine wlVal (opAssign rfl) rfl ?_
        refine wlThen ?_
        refine wcRet ?_
        exact fun ac_ ha => hQ _ _ _ (results2 ha rfl rfl rfl) ha.df (endS hC hw (by have e := bsGo_done xs t f i j (of_decide_eq_false h3); rw [hI] at e; simp [bsF, h3, h4, h13, e, hx6]))
      · skip
        refine wlOff rfl rfl rfl rfl ?_
        refine wlOff rfl rfl rfl rfl ?_
        refine wlOff rfl rfl rfl rfl ?_
        refine wlOff rfl rfl rfl rfl ?_
        refine wlOff rfl rfl rfl rfl ?_
        refine wlOff rfl rfl rfl rfl ?_
        refine wlOffU rfl rfl rfl ?_
        refine wlOffU rfl rfl rfl ?_
        refine wlOff rfl rfl rfl rfl ?_
        refine wlOn rfl rfl ?_
        refine wlVal (opPickT rfl rfl) rfl ?_
        refine wlVal (opPickT rfl rfl) rfl ?_
        refine wlVal (opAssign rfl) rfl ?_
        refine wlVal (opAssign rfl) rfl ?_
        refine wlThen ?_
        refine wcRet ?_
        exact fun ac_ ha => hQ _ _ _ (results2 ha rfl rfl rfl) ha.df (endS hC hw (by have e := bsGo_done xs t f i j (of_decide_eq_false h3); rw [hI] at e; simp [bsF, h3, h4, h13, e, hx6]))
  · skip
    refine wcCondT rfl ?_
    refine wcSkip ?_
    refine wcOf ?_
    refine wcBlock ?_
    refine wcSeq ?_
    refine wcRegion ?_
    refine wlVal (opMove rfl) rfl ?_
    refine wlVal (opMove rfl) rfl ?_
    refine wlVal (opAddN rfl rfl (by have := hxs.le; unfold maxL at this; have := of_decide_eq_true h3; omega)) rfl ?_
    refine wlVal (opConvN rfl un3 ui83 (wrap_u64_nat (by have := hxs.le; unfold maxL at this; have := of_decide_eq_true h3; omega))) rfl ?_
    refine wlVal (opHalf rfl rfl) rfl ?_
    refine wlVal (opConvN rfl un83 ui3 (wrap_i64_nat (by have := hxs.le; unfold maxL at this; have := of_decide_eq_true h3; omega))) rfl ?_
    refine wlVal (opAssign rfl) rfl ?_
    refine wlThen ?_
    refine wcSeq ?_
    refine wcRegion ?_
    refine wlVal (opMove rfl) rfl ?_
    refine wlVal (opMove rfl) rfl ?_
    obtain ⟨x14, hx15⟩ : ∃ y_, xs[(i + j) / 2]? = some y_ := ⟨_, List.getElem?_eq_getElem (by have := of_decide_eq_true h3; omega)⟩
    obtain ⟨b16, o17, row18, hA21, hr19, hi20⟩ := hxs.elem hx15; subst hA21
    obtain rfl := hi20
    refine wlVal (opIndexAddr rfl rfl slo22 (by have := of_decide_eq_true h3; omega)) rfl ?_
    refine wlVal (opLoadOne (v := (.int .i64 x14)) rfl (RowG.cell0 hC.holds hr19 rfl) one3) rfl ?_
    refine wlVal (opMove rfl) rfl ?_
    refine wlCallS hC hB rfl co61 rfl rfl (less_ret _ _ hC.holds x14 t) ?_; intro w hk hC hB
    refine wlThen ?_
    cases h22 : (decide (x14 < t))
    · skip
      refine wcCondF rfl ?_
      refine wcRegion ?_
      refine wlVal (opMove rfl) rfl ?_
      refine wlVal (opAssign rfl) rfl ?_
      refine wlNil ?_
      refine wrOf ?_
      have hij := of_decide_eq_true h3
      exact (IH0 (i, (i + j) / 2, (f - 1)) _ _ ⟨hC, hB, hxs, (by omega), (by omega), (by rw [← hI, bsGo_step xs t f i j (by omega) (by omega) hx15, h22]; rfl)⟩ (by have := of_decide_eq_true h3; simp; omega)).sub (fun _ ha => (((((ha.start.cons ha (t := 0) rfl).cons ha (t := 1) rfl).cons ha (t := 6) rfl).cons ha (t := 7) rfl).cons ha (t := 8) rfl))
    · skip
      refine wcCondT rfl ?_
      refine wcRegion ?_
      refine wlVal (opMove rfl) rfl ?_
      refine wlVal (opIncr rfl rfl (by have := hxs.le; unfold maxL at this; have := of_decide_eq_true h3; omega)) rfl ?_
      refine wlVal (opAssign rfl) rfl ?_
      refine wlNil ?_
      refine wrOf ?_
      have hij := of_decide_eq_true h3
      exact (IH0 ((i + j) / 2 + 1, j, (f - 1)) _ _ ⟨hC, hB, hxs, (by omega), (by omega), (by rw [← hI, bsGo_step xs t f i j (by omega) (by omega) hx15, h22]; rfl)⟩ (by have := of_decide_eq_true h3; simp; omega)).sub (fun _ ha => (((((ha.start.cons ha (t := 0) rfl).cons ha (t := 1) rfl).cons ha (t := 6) rfl).cons ha (t := 7) rfl).cons ha (t := 8) rfl))

theorem has_ret (G0 : Gh) (w0 : World) (hw : Holds G0 w0) (csc : List Value) (c : Crew) (hc : Rp.Is G0 csc c) (n : Int) :
    RetS Try.prog 33 #[.agg csc.toArray, .int .i64 n] G0 w0 (.bool (has c n)) := by
  have hC := Cx.refl hw
  have hB : Bxs G0 w0 w0.heap.size [] := Bxs.nil _ _ _
  obtain ⟨v1, rfl, hs2⟩ := Crew.opIs hc
  obtain ⟨A3, cap4, rfl⟩ := hs2.form
  refine callsOf Try.func33 rfl _ Try.ntmps33 rfl _ (argsCons (argsCons argsNil (t := 0) rfl) (t := 1) rfl) ?_; intro Q0 hQ
  refine wcSeq ?_
  refine wcRegion ?_
  refine wlBox (cs := [(.int .i64 c.faults), (.slice A3 c.nodes.length cap4)]) hC hB rfl rfl rfl ?_; intro b5 w hk hC hB
  refine wlVal (opAssign rfl) rfl ?_
  refine wlThen ?_
  refine wcSeq ?_
  refine wcRegion ?_
  refine wlVal (opFieldAddr rfl fo24_1) rfl ?_
  refine wlVal (opLoadOne (v := (.slice A3 c.nodes.length cap4)) rfl (hB.cell (i := 0) rfl rfl) one22) rfl ?_
  refine wlVal (opMove rfl) rfl ?_
  refine wlCallS hC hB rfl co51 rfl rfl (bs_ret _ _ hC.holds _ c.nodes hs2 n) ?_; intro w hk hC hB
  refine wlVal (opMove rfl) rfl ?_
  refine wlVal (opExtract rfl rfl) rfl ?_
  refine wlVal (opExtract rfl rfl) rfl ?_
  refine wlVal (opAssign rfl) rfl ?_
  refine wlVal (opAssign rfl) rfl ?_
  refine wlThen ?_
  refine wcSeq ?_
  refine wcRegion ?_
  refine wlVal (opLoadRow (cs := [(.int .i64 c.faults), (.slice A3 c.nodes.length cap4)]) rfl (hB.range (i := 0) (m := 2) rfl rfl) row24 rfl) rfl ?_
  refine wlCallS hC hB rfl co27 rfl rfl (check_ret _ _ hC.holds _ c (Crew.mkIs (x := c) hs2)) ?_; intro w hk hC hB
  refine wlVal (opEql rfl rfl) rfl ?_
  refine wlVal (opMove rfl) rfl ?_
  cases h6 : ((check c)) == 0
  · skip
    refine wlOff rfl rfl rfl rfl ?_
    refine wlVal (opPickF rfl rfl) rfl ?_
    refine wlVal (opAssign rfl) rfl ?_
    refine wlThen ?_
    refine wcRet ?_
    exact fun ac_ ha => hQ _ _ _ (results1 ha rfl rfl) ha.df (endS hC hw (by simp [has, h6]))
  · skip
    refine wlOn rfl rfl ?_
    refine wlVal (opMove rfl) rfl ?_
    refine wlVal (opPickT rfl rfl) rfl ?_
    refine wlVal (opAssign rfl) rfl ?_
    refine wlThen ?_
    refine wcRet ?_
    exact fun ac_ ha => hQ _ _ _ (results1 ha rfl rfl) ha.df (endS hC hw (by simp [has, h6]))

theorem most_ret (G0 : Gh) (w0 : World) (hw : Holds G0 w0) (csc : List Value) (c : Crew) (hc : Rp.Is G0 csc c) :
    RetS Try.prog 47 #[.agg csc.toArray] G0 w0 (.int .i64 (most c)) := by
  have hC := Cx.refl hw
  have hB : Bxs G0 w0 w0.heap.size [] := Bxs.nil _ _ _
  obtain ⟨v1, rfl, hs2⟩ := Crew.opIs hc
  obtain ⟨A3, cap4, rfl⟩ := hs2.form
  refine callsOf Try.func47 rfl _ Try.ntmps47 rfl _ (argsCons argsNil (t := 0) rfl) ?_; intro Q0 hQ
  refine wcSeq ?_
  refine wcRegion ?_
  refine wlBox (cs := [(.int .i64 c.faults), (.slice A3 c.nodes.length cap4)]) hC hB rfl rfl rfl ?_; intro b5 w hk hC hB
  refine wlVal (opAssign rfl) rfl ?_
  refine wlThen ?_
  refine wcSeq ?_
  refine wcSeq ?_
  refine wcRegion ?_
  refine wlVal (opLoadRow (cs := [(.int .i64 c.faults), (.slice A3 c.nodes.length cap4)]) rfl (hB.range (i := 0) (m := 2) rfl rfl) row24 rfl) rfl ?_
  refine wlCallS hC hB rfl co27 rfl rfl (check_ret _ _ hC.holds _ c (Crew.mkIs (x := c) hs2)) ?_; intro w hk hC hB
  refine wlVal (opNeq rfl rfl) rfl ?_
  refine wlThen ?_
  cases h6 : ((check c)) != 0
  · skip
    refine wcCondF rfl ?_
    refine wcSkip ?_
    refine wcOf ?_
    refine wcSeq ?_
    refine wcRegion ?_
    refine wlVal (opFieldAddr rfl fo24_0) rfl ?_
    refine wlVal (opLoadOne (v := (.int .i64 c.faults)) rfl (hB.cell (i := 0) rfl rfl) one3) rfl ?_
    refine wlVal (opMul rfl rfl) rfl ?_
    refine wlVal (opAdd rfl rfl) rfl ?_
    refine wlVal (opAssign rfl) rfl ?_
    refine wlThen ?_
    refine wcRet ?_
    exact fun ac_ ha => hQ _ _ _ (results1 ha rfl rfl) ha.df (endS hC hw (by simp [most, h6]))
  · skip
    refine wcCondT rfl ?_
    refine wcSeq ?_
    refine wcRegion ?_
    refine wlVal (opAssign rfl) rfl ?_
    refine wlThen ?_
    refine wcRet ?_
    exact fun ac_ ha => hQ _ _ _ (results1 ha rfl rfl) ha.df (endS hC hw (by simp [most, h6]))

theorem some_ret (G0 : Gh) (w0 : World) (hw : Holds G0 w0) (csc : List Value) (c : Crew) (hc : Rp.Is G0 csc c) :
    RetS Try.prog 48 #[.agg csc.toArray] G0 w0 (.int .i64 (some_ c)) := by
  have hC := Cx.refl hw
  have hB : Bxs G0 w0 w0.heap.size [] := Bxs.nil _ _ _
  obtain ⟨v1, rfl, hs2⟩ := Crew.opIs hc
  obtain ⟨A3, cap4, rfl⟩ := hs2.form
  refine callsOf Try.func48 rfl _ Try.ntmps48 rfl _ (argsCons argsNil (t := 0) rfl) ?_; intro Q0 hQ
  refine wcSeq ?_
  refine wcRegion ?_
  refine wlBox (cs := [(.int .i64 c.faults), (.slice A3 c.nodes.length cap4)]) hC hB rfl rfl rfl ?_; intro b5 w hk hC hB
  refine wlVal (opAssign rfl) rfl ?_
  refine wlThen ?_
  refine wcSeq ?_
  refine wcSeq ?_
  refine wcRegion ?_
  refine wlVal (opLoadRow (cs := [(.int .i64 c.faults), (.slice A3 c.nodes.length cap4)]) rfl (hB.range (i := 0) (m := 2) rfl rfl) row24 rfl) rfl ?_
  refine wlCallS hC hB rfl co27 rfl rfl (check_ret _ _ hC.holds _ c (Crew.mkIs (x := c) hs2)) ?_; intro w hk hC hB
  refine wlVal (opNeq rfl rfl) rfl ?_
  refine wlThen ?_
  cases h6 : ((check c)) != 0
  · skip
    refine wcCondF rfl ?_
    refine wcSkip ?_
    refine wcOf ?_
    refine wcSeq ?_
    refine wcRegion ?_
    refine wlVal (opFieldAddr rfl fo24_0) rfl ?_
    refine wlVal (opLoadOne (v := (.int .i64 c.faults)) rfl (hB.cell (i := 0) rfl rfl) one3) rfl ?_
    refine wlVal (opAdd rfl rfl) rfl ?_
    refine wlVal (opAssign rfl) rfl ?_
    refine wlThen ?_
    refine wcRet ?_
    exact fun ac_ ha => hQ _ _ _ (results1 ha rfl rfl) ha.df (endS hC hw (by simp [some_, h6]))
  · skip
    refine wcCondT rfl ?_
    refine wcSeq ?_
    refine wcRegion ?_
    refine wlVal (opAssign rfl) rfl ?_
    refine wlThen ?_
    refine wcRet ?_
    exact fun ac_ ha => hQ _ _ _ (results1 ha rfl rfl) ha.df (endS hC hw (by simp [some_, h6]))

theorem or_ret (G0 : Gh) (w0 : World) (hw : Holds G0 w0) (vl : Value) (l : List Int) (hl : Sl G0 vl l) :
    RetS Try.prog 59 #[vl] G0 w0 (.int .i64 (orI l)) := by
  have hC := Cx.refl hw
  have hB : Bxs G0 w0 w0.heap.size [] := Bxs.nil _ _ _
  obtain ⟨A1, cap2, rfl⟩ := hl.form
  refine callsOf Try.func59 rfl _ Try.ntmps59 rfl _ (argsCons argsNil (t := 0) rfl) ?_; intro Q0 hQ
  refine wcSeq ?_
  refine wcRegion ?_
  refine wlVal (opAssign rfl) rfl ?_
  refine wlThen ?_
  refine wcSeq ?_
  refine wcRegion ?_
  refine wlVal (opAssign rfl) rfl ?_
  refine wlThen ?_
  refine wcSeq ?_
  refine wcSeq ?_
  refine wcRegion ?_
  refine wlVal (opMove rfl) rfl ?_
  refine wlVal (opLen rfl isl22) rfl ?_
  refine wlVal (opMove rfl) rfl ?_
  refine wlThen ?_
  refine wcBlock ?_
  refine WC.sub (wrInd (ι := Nat) (fun k => l.length - k) (fun k G w => Cx w0 G0 G w ∧ Bxs G w w0.heap.size [] ∧ Sl G (.slice A1 l.length cap2) l ∧ orI (l.drop k) = orI l) (fun k => ((((Env.nil.put 3 (.int .i64 0)).put 6 (.slice A1 l.length cap2)).put 7 (.int .i64 (((l.length : Nat) : Int)))).put 8 (.int .i64 (((k : Nat) : Int))))) ?_ (0) _ _ ⟨hC, hB, hl, rfl⟩) (fun _ ha => ((((ha.start.cons ha (t := 3) rfl).cons ha (t := 6) rfl).cons ha (t := 7) rfl).cons ha (t := 8) rfl))
  rintro k G w N0 IH0 ⟨hC, hB, hl, hI⟩
  show WC _ _ _ _ ((((Env.nil.put 3 (.int .i64 0)).put 6 (.slice A1 l.length cap2)).put 7 (.int .i64 (((l.length : Nat) : Int)))).put 8 (.int .i64 (((k : Nat) : Int)))) w
  refine wcSeq ?_
  refine wcRegion ?_
  refine wlVal (opLssN rfl rfl) rfl ?_
  refine wlThen ?_
  refine wcSeq ?_
  cases h3 : decide (k < l.length)
  · skip
    refine wcCondF rfl ?_
    refine wcExit ?_
    refine wcOf ?_
    refine wcSeq ?_
    refine wcRegion ?_
    refine wlVal (opMove rfl) rfl ?_
    refine wlVal (opAssign rfl) rfl ?_
    refine wlThen ?_
    refine wcRet ?_
    exact fun ac_ ha => hQ _ _ _ (results1 ha rfl rfl) ha.df (endS hC hw (by have e := hI; rw [List.drop_eq_nil_of_le (Nat.le_of_not_lt (of_decide_eq_false h3))] at e; simp [orI, h3] at e; simp [e]))
  · skip
    refine wcCondT rfl ?_
    refine wcSkip ?_
    refine wcOf ?_
    refine wcSeq ?_
    refine wcBlock ?_
    refine wcSeq ?_
    refine wcRegion ?_
    obtain ⟨x4, hx5⟩ : ∃ y_, l[k]? = some y_ := ⟨_, List.getElem?_eq_getElem (of_decide_eq_true h3)⟩
    obtain ⟨b6, o7, row8, hA11, hr9, hi10⟩ := hl.elem hx5; subst hA11
    obtain rfl := hi10
    refine wlVal (opIndexAddr rfl rfl slo22 (of_decide_eq_true h3)) rfl ?_
    refine wlVal (opLoadOne (v := (.int .i64 x4)) rfl (RowG.cell0 hC.holds hr9 rfl) one3) rfl ?_
    refine wlVal (opAssign rfl) rfl ?_
    refine wlThen ?_
    refine wcSeq ?_
    refine wcRegion ?_
    refine wlVal (opMove rfl) rfl ?_
    refine wlVal (opMove rfl) rfl ?_
    refine wlVal (opNeq rfl rfl) rfl ?_
    refine wlThen ?_
    cases h12 : x4 != 0
    · skip
      refine wcCondF rfl ?_
      refine wcSkip ?_
      refine wcOf ?_
      refine wcRegion ?_
      refine wlVal (opIncr rfl rfl (incr_ok (of_decide_eq_true h3) hl.le)) rfl ?_
      refine wlVal (opMove rfl) rfl ?_
      refine wlRound ?_
      exact (IH0 (k + 1) _ _ ⟨hC, hB, hl, (by rw [← hI, drop_get hx5]; simp [orI, h3, h12])⟩ (by have := of_decide_eq_true h3; simp; omega)).sub (fun _ ha => ((((ha.start.cons ha (t := 3) rfl).cons ha (t := 6) rfl).cons ha (t := 7) rfl).cons ha (t := 8) rfl))
    · skip
      refine wcCondT rfl ?_
      refine wcSeq ?_
      refine wcRegion ?_
      refine wlVal (opMove rfl) rfl ?_
      refine wlVal (opAssign rfl) rfl ?_
      refine wlThen ?_
      refine wcRet ?_
      exact fun ac_ ha => hQ _ _ _ (results1 ha rfl rfl) ha.df (endS hC hw (by have e := hI; rw [drop_get hx5] at e; simp [orI, h3, h12] at e; simp [e]))

theorem bcmp_ret (G0 : Gh) (w0 : World) (hw : Holds G0 w0) (va : Value) (a : List UInt8) (ha : Sl G0 va a) (vb : Value) (b : List UInt8) (hb : Sl G0 vb b) :
    RetS Try.prog 60 #[va, vb] G0 w0 (.int .i64 (cmpB a b)) := by
  have hC := Cx.refl hw
  have hB : Bxs G0 w0 w0.heap.size [] := Bxs.nil _ _ _
  obtain ⟨A1, cap2, rfl⟩ := ha.form
  obtain ⟨A3, cap4, rfl⟩ := hb.form
  refine callsOf Try.func60 rfl _ Try.ntmps60 rfl _ (argsCons (argsCons argsNil (t := 0) rfl) (t := 1) rfl) ?_; intro Q0 hQ
  refine wcSeq ?_
  refine wcRegion ?_
  refine wlVal (opAssign rfl) rfl ?_
  refine wlThen ?_
  refine wcSeq ?_
  refine wcRegion ?_
  refine wlVal (opMove rfl) rfl ?_
  refine wlVal (opMove rfl) rfl ?_
  refine wlVal (opCallExt Try.func66 ext66b ext66n ext66x ext66f rfl (run_compare hC.holds ha hb)) rfl ?_
  refine wlVal (opAssign rfl) rfl ?_
  refine wlThen ?_
  refine wcRet ?_
  exact fun ac_ ha => hQ _ _ _ (results1 ha rfl rfl) ha.df (endS hC hw rfl)

end Go.Proofs.Ytbmanooiphghmaa
