/- What functions of the slots seat return, part 0. No condition. -/
import Derived.Test.YtljcgggflgbenaaDoorGxSort
import Derived.Test.YtljcgggflgbenaaDoorRows
set_option linter.all false
namespace Go.Proofs.YtljcgggflgbenaaDoor
open Go Go.Gx Go.RowKit
structure Crew where
  faults : Int
  nodes : List Int
  deriving DecidableEq, Inhabited
instance : Rp Crew := ⟨2, fun G cs x => ∃ v0, cs = [.int .i64 x.faults, v0] ∧ Sl G v0 x.nodes, fun ⟨_, h, _⟩ => by rw [h]; simp, fun ⟨v0, h, hv0⟩ => by obtain ⟨Av0, cv0, rfl⟩ := hv0.form; rw [h]; simp [Value.oneCell'], fun hg ⟨v0, h, hv0⟩ => ⟨v0, h, hv0.mono hg⟩⟩
theorem Crew.opIs {G : Gh} {cs : List Value} {x : Crew} (h : Rp.Is G cs x) : ∃ v0, cs = [.int .i64 x.faults, v0] ∧ Sl G v0 x.nodes := h
theorem Crew.mkIs {G : Gh} {x : Crew} {v0 : Value} (hv0 : Sl G v0 x.nodes) : Rp.Is G [.int .i64 x.faults, v0] x := ⟨_, rfl, hv0⟩
structure Mark where
  seq : Int
  dig : Dig
  deriving DecidableEq, Inhabited
def Mark.cells (x : Mark) : List Value := (.int .i64 x.seq :: (x.dig.cells ++ []))
@[simp] theorem Mark.length_cells (x : Mark) : x.cells.length = 33 := by simp [Mark.cells]
instance : Rp Mark := ⟨33, fun _ cs x => cs = x.cells, fun h => by rw [h]; exact Mark.length_cells _, fun h => by rw [h]; intro u hu; simp only [Mark.cells, List.mem_cons, List.mem_append, List.not_mem_nil, or_false] at hu; rcases hu with rfl | hu <;> first | rfl | exact mem_cells _ _ hu, fun _ h => h⟩
structure Stand where
  seq : Int
  dig : Dig
  view : Int
  deriving DecidableEq, Inhabited
def Stand.cells (x : Stand) : List Value := (.int .i64 x.seq :: (x.dig.cells ++ (.int .i64 x.view :: [])))
@[simp] theorem Stand.length_cells (x : Stand) : x.cells.length = 34 := by simp [Stand.cells]
instance : Rp Stand := ⟨34, fun _ cs x => cs = x.cells, fun h => by rw [h]; exact Stand.length_cells _, fun h => by rw [h]; intro u hu; simp only [Stand.cells, List.mem_cons, List.mem_append, List.not_mem_nil, or_false] at hu; rcases hu with rfl | hu | rfl <;> first | rfl | exact mem_cells _ _ hu, fun _ h => h⟩
structure Wd where
  view : Int
  dig : Dig
  deriving DecidableEq, Inhabited
def Wd.cells (x : Wd) : List Value := (.int .i64 x.view :: (x.dig.cells ++ []))
@[simp] theorem Wd.length_cells (x : Wd) : x.cells.length = 33 := by simp [Wd.cells]
instance : Rp Wd := ⟨33, fun _ cs x => cs = x.cells, fun h => by rw [h]; exact Wd.length_cells _, fun h => by rw [h]; intro u hu; simp only [Wd.cells, List.mem_cons, List.mem_append, List.not_mem_nil, or_false] at hu; rcases hu with rfl | hu <;> first | rfl | exact mem_cells _ _ hu, fun _ h => h⟩
structure Word where
  node : Int
  view : Int
  seq : Int
  commits : Bool
  b : UInt8
  deriving DecidableEq, Inhabited
def Word.cells (x : Word) : List Value := [.int .i64 x.node, .int .i64 x.view, .int .i64 x.seq, .bool x.commits, .int .u8 (x.b.toNat : Int)]
@[simp] theorem Word.length_cells (x : Word) : x.cells.length = 5 := by simp [Word.cells]
instance : Rp Word := ⟨5, fun _ cs x => cs = x.cells, fun h => by rw [h]; exact Word.length_cells _, fun h => by rw [h]; intro u hu; simp only [Word.cells, List.mem_cons, List.mem_append, List.not_mem_nil, or_false] at hu; rcases hu with rfl | rfl | rfl | rfl | rfl <;> first | rfl | exact mem_cells _ _ hu, fun _ h => h⟩
def nodeB (n : Int) : Bool := decide (1 ≤ n) && decide (n ≤ 28)
def cmpI (x y : Int) : Int := if x < y then -1 else if y < x then 1 else 0
def risesB : Int → List Int → Bool
  | _, [] => true
  | l, x :: r => bif decide (x ≤ l) || !nodeB x then false else risesB x r
def check (c : Crew) : Int := bif decide (c.faults < 0) || (decide (2 < c.faults) || ((c.nodes.length : Int) != IntKind.wrap .i64 (IntKind.wrap .i64 (3 * c.faults) + 1))) then 110 else bif risesB 0 c.nodes then 0 else 110
def bsGo (xs : List Int) (t : Int) : Nat → Nat → Nat → Nat
  | 0, i, _ => i
  | f + 1, i, j => bif decide (i < j) then (bif decide (xs.getD ((i + j) / 2) 0 < t) then bsGo xs t f ((i + j) / 2 + 1) j else bsGo xs t f i ((i + j) / 2)) else i
def bsI (xs : List Int) (t : Int) : Nat := bsGo xs t xs.length 0 xs.length
def bsF (xs : List Int) (t : Int) : Bool := decide (bsI xs t < xs.length) && (xs.getD (bsI xs t) 0 == t)
theorem bsGo_done (xs : List Int) (t : Int) (f i j : Nat) (h : ¬ i < j) : bsGo xs t f i j = i := by
  cases f with
  | zero => rfl
  | succ f => simp [bsGo, h]
theorem bsGo_step (xs : List Int) (t : Int) (f i j : Nat) (h : i < j) (hf : j ≤ i + f) {x : Int} (hx : xs[(i + j) / 2]? = some x) :
    bsGo xs t f i j = bif decide (x < t) then bsGo xs t (f - 1) ((i + j) / 2 + 1) j else bsGo xs t (f - 1) i ((i + j) / 2) := by
  cases f with
  | zero => omega
  | succ f => simp [bsGo, h, hx]
def orI : List Int → Int
  | [] => 0
  | x :: r => bif x != 0 then x else orI r
def idxG {α : Type} (p : α → Bool) : List α → Nat → Int
  | [], _ => -1
  | x :: r, k => bif p x then (k : Int) else idxG p r (k + 1)
def has (c : Crew) (n : Int) : Bool := (check c == 0) && bsF c.nodes n
def most (c : Crew) : Int := bif check c != 0 then 0 else IntKind.wrap .i64 (IntKind.wrap .i64 (2 * c.faults) + 1)
def bringI (n m : Int) : Int := bif decide (m ≤ 0) then 0 else bif decide (Int.tmod n m < 0) then IntKind.wrap .i64 (Int.tmod n m + m) else Int.tmod n m
def crewI (f : Int) : Crew := ⟨f, (List.range (3 * f.toNat + 1)).map (fun i => ((i + 1 : Nat) : Int))⟩
def digN (x : UInt8) : Dig := ⟨x :: 1 :: List.replicate 30 0, rfl⟩
def viewB (v : Int) : Bool := decide (0 ≤ v) && decide (v ≤ 1048576)
def lowB (v : Int) : Bool := decide (0 ≤ v) && decide (v ≤ 9007199254740983)
def isJ (p : Stand → Stand → Int) : Nat → List Stand → List Stand
  | 0, l => l
  | j + 1, l => bif decide (p (l.getD (j + 1) default) (l.getD j default) < 0) then isJ p j ((l.set (j + 1) (l.getD j default)).set j (l.getD (j + 1) default)) else l
def isI (p : Stand → Stand → Int) : Nat → Nat → List Stand → List Stand
  | 0, _, l => l
  | f + 1, i, l => isI p f (i + 1) (isJ p i l)
def isortG (p : Stand → Stand → Int) (l : List Stand) : List Stand := isI p (l.length - 1) 1 l
def len8 (x : Nat) : Nat := bif x == 0 then 0 else bif decide (x < 2) then 1 else bif decide (x < 4) then 2 else bif decide (x < 8) then 3 else 4
theorem len8_le (x : Nat) : len8 x ≤ 4 := by unfold len8; cases x == 0 <;> cases decide (x < 2) <;> cases decide (x < 4) <;> cases decide (x < 8) <;> decide
theorem len8_lt (x : Nat) : len8 x < 9223372036854775808 := by have := len8_le x; omega
theorem len8_fin (x : Nat) : IntKind.wrap .i64 (0 + ((len8 x : Nat) : Int)) = ((len8 x : Nat) : Int) := by
  have := len8_le x; rw [Int.zero_add]; exact wrap_i64_nat (by omega)
theorem len8_at {s : ByteArray} {x : Nat} (hs : s.data.toList.take 13 = [0, 1, 2, 2, 3, 3, 3, 3, 4, 4, 4, 4, 4]) (h : x ≤ 12) : ∃ u, s[x]? = some u ∧ u.toNat = len8 x := by
  have h1 : ∀ i : Fin 13, ∃ u, ([0, 1, 2, 2, 3, 3, 3, 3, 4, 4, 4, 4, 4] : List UInt8)[i.1]? = some u ∧ u.toNat = len8 i.1 := by
    intro i; refine ⟨([0, 1, 2, 2, 3, 3, 3, 3, 4, 4, 4, 4, 4] : List UInt8)[i.1]'(by simp), ?_, ?_⟩
    · simp
    · revert i; decide
  obtain ⟨u, h2, h3⟩ := h1 ⟨x, by omega⟩
  refine ⟨u, ?_, h3⟩
  have h4 : s.data.toList[x]? = some u := by
    have := h2; rw [← hs, List.getElem?_take] at this
    simpa [show x < 13 by omega] using this
  have hl := (List.getElem?_eq_some_iff.1 h4).1
  have hlt : x < s.size := by simpa using hl
  rw [getElem?_pos s x hlt]
  congr 1
  have := (List.getElem?_eq_some_iff.1 h4).2
  have h5 : s.data[x]'hlt = u := by simpa using this
  exact h5
theorem is_stop0 {p : Stand → Stand → Int} {j : Nat} {l : List Stand} (h : decide (0 < ((j : Nat) : Int)) = false) : isJ p j l = l := by
  cases j with
  | zero => rfl
  | succ j => have := of_decide_eq_false h; omega
theorem is_step {p : Stand → Stand → Int} {j : Nat} {l : List Stand} {x y : Stand} (h : decide (0 < ((j : Nat) : Int)) = true) (hx : l[j]? = some x) (hy : l[j - 1]? = some y) :
    isJ p j l = bif decide (p x y < 0) then isJ p (j - 1) ((l.set j y).set (j - 1) x) else l := by
  cases j with
  | zero => have := of_decide_eq_true h; omega
  | succ j =>
    have e1 : l.getD (j + 1) default = x := by simp [hx]
    have e2 : l.getD j default = y := by simp at hy; simp [hy]
    simp only [isJ, e1, e2, Nat.add_sub_cancel]
theorem is_stop {p : Stand → Stand → Int} {j : Nat} {l : List Stand} {x y : Stand} (h : decide (0 < ((j : Nat) : Int)) = true) (hx : l[j]? = some x) (hy : l[j - 1]? = some y) (hp : decide (p x y < 0) = false) : isJ p j l = l := by
  rw [is_step h hx hy, hp]; rfl
theorem is_go {p : Stand → Stand → Int} {j : Nat} {l : List Stand} {x y : Stand} (h : decide (0 < ((j : Nat) : Int)) = true) (hx : l[j]? = some x) (hy : l[j - 1]? = some y) (hp : decide (p x y < 0) = true) : isJ p j l = isJ p (j - 1) ((l.set j y).set (j - 1) x) := by
  rw [is_step h hx hy, hp]; rfl
theorem is_out {p : Stand → Stand → Int} {n i j : Nat} {u l s : List Stand} (hI : isI p (n - i) i u = isortG p s) (hi : decide (i < n) = true) (hJ : isJ p j l = isJ p i u) (hs : isJ p j l = l) : isI p (n - (i + 1)) (i + 1) l = isortG p s := by
  have hi := of_decide_eq_true hi
  rw [← hI, show n - i = (n - (i + 1)) + 1 from by omega]; simp only [isI]; rw [← hJ, hs]
theorem is_end {p : Stand → Stand → Int} {n i : Nat} {u s : List Stand} (hI : isI p (n - i) i u = isortG p s) (hi : decide (i < n) = false) : u = isortG p s := by
  have hi := of_decide_eq_false hi
  rw [← hI, show n - i = 0 from by omega]; rfl
theorem is_sm {n j i : Nat} {s : List Stand} (hn : n = s.length) (hsm : s.length ≤ 12) (hj : j ≤ i) (hi : decide (i < n) = true) : j < 4611686018427387904 := by
  have := of_decide_eq_true hi; omega
def ordS (a b : Stand) : Int := orI [cmpI a.seq b.seq, cmpI a.view b.view, cmpB a.dig.l b.dig.l]
theorem co70 : callOk Tryd.prog 70 = true := by kernel_rfl
theorem fo53_0 : fieldOk Tryd.prog 53 0 0 = true := by kernel_rfl
theorem one3 : oneOk Tryd.prog 3 = true := by kernel_rfl
theorem fo53_1 : fieldOk Tryd.prog 53 1 1 = true := by kernel_rfl
theorem one51 : oneOk Tryd.prog 51 = true := by kernel_rfl
theorem isl51 : isSlice Tryd.prog 51 = true := by kernel_rfl
theorem slo51 : sliceOk Tryd.prog 51 3 1 = true := by kernel_rfl
theorem co57 : callOk Tryd.prog 57 = true := by kernel_rfl
theorem co73 : callOk Tryd.prog 73 = true := by kernel_rfl
theorem un3 : (Tryd.prog.underlying 3).isSome = true := by kernel_rfl
theorem ui88 : Tryd.prog.underlying 88 = some (.int .u64) := by kernel_rfl
theorem un88 : (Tryd.prog.underlying 88).isSome = true := by kernel_rfl
theorem ui3 : Tryd.prog.underlying 3 = some (.int .i64) := by kernel_rfl
theorem co72 : callOk Tryd.prog 72 = true := by kernel_rfl
theorem co58 : callOk Tryd.prog 58 = true := by kernel_rfl
theorem row53 : rowOk Tryd.prog 53 2 = true := by kernel_rfl
theorem co42 : callOk Tryd.prog 42 = true := by kernel_rfl
theorem ext71b : Tryd.f71.body.isNone = true := by kernel_rfl
theorem ext71n : (Tryd.f71.name == "runtime.NumGoroutine") = false := by kernel_rfl
theorem ext71x : (Extern.findNext Tryd.f71).isNone = true := by kernel_rfl
theorem ext71f : Extern.find Tryd.f71 = some Extern.BytealgCompare.compare := by kernel_rfl
theorem zero53 : (Tryd.prog.info? 53).bind (fun i => i.zero.map Value.cells) = some ([(.int .i64 0), (.slice none 0 0)] : List Value).toArray := by kernel_rfl
theorem so53 : structOk Tryd.prog 53 [(0, 1), (1, 1)] = true := by kernel_rfl
theorem sz53 : (Tryd.prog.info? 53).map (·.size) = some 2 := by kernel_rfl
theorem elo51 : elemOk Tryd.prog 51 3 1 8 = true := by kernel_rfl
theorem sz51 : (Tryd.prog.info? 51).map (·.size) = some 1 := by kernel_rfl
theorem zero38 : (Tryd.prog.info? 38).bind (fun i => i.zero.map Value.cells) = some (Dig.zero.cells : List Value).toArray := by kernel_rfl
theorem ar38 : arrOk Tryd.prog 38 32 5 1 = true := by kernel_rfl
theorem sz38 : (Tryd.prog.info? 38).map (·.size) = some 32 := by kernel_rfl
theorem row38 : rowOk Tryd.prog 38 32 = true := by kernel_rfl
theorem fo43_0 : fieldOk Tryd.prog 43 0 0 = true := by kernel_rfl
theorem co55 : callOk Tryd.prog 55 = true := by kernel_rfl
theorem fo43_2 : fieldOk Tryd.prog 43 2 33 = true := by kernel_rfl
theorem fo43_1 : fieldOk Tryd.prog 43 1 1 = true := by kernel_rfl
theorem by38 : bytes32 Tryd.prog 38 = true := by kernel_rfl
theorem co56 : callOk Tryd.prog 56 = true := by kernel_rfl
theorem co54 : callOk Tryd.prog 54 = true := by kernel_rfl
theorem fmix : Tryd.prog.follows .mixedOrders = true := by kernel_rfl
theorem un109 : (Tryd.prog.underlying 109).isSome = true := by kernel_rfl
theorem ui5 : Tryd.prog.underlying 5 = some (.int .u8) := by kernel_rfl
theorem st9 : Tryd.prog.underlying 9 = some .string := by kernel_rfl
theorem un5 : (Tryd.prog.underlying 5).isSome = true := by kernel_rfl
theorem co69 : callOk Tryd.prog 69 = true := by kernel_rfl
theorem slo33 : sliceOk Tryd.prog 33 43 34 = true := by kernel_rfl
theorem row43 : rowOk Tryd.prog 43 34 = true := by kernel_rfl
theorem sz43 : (Tryd.prog.info? 43).map (·.size) = some 34 := by kernel_rfl
theorem co60 : callOk Tryd.prog 60 = true := by kernel_rfl
theorem isl33 : isSlice Tryd.prog 33 = true := by kernel_rfl
theorem co53 : callOk Tryd.prog 53 = true := by kernel_rfl
theorem co52 : callOk Tryd.prog 52 = true := by kernel_rfl
theorem node_ret (G0 : Gh) (w0 : World) (hw : Holds G0 w0) (n : Int) :
    RetS Tryd.prog 57 #[.int .i64 n] G0 w0 (.bool (nodeB n)) := by
  have hC := Cx.refl hw
  have hB : Bxs G0 w0 w0.heap.size [] := Bxs.nil _ _ _
  refine callsOf Tryd.func57 rfl _ Tryd.ntmps57 rfl _ (argsCons argsNil (t := 0) rfl) ?_; intro Q0 hQ
  refine wcSeq ?_
  refine wcRegion ?_
  refine wlVal (opAssign rfl) rfl ?_
  refine wlThen ?_
  refine wcSeq ?_
  refine wcRegion ?_
  refine wlVal (opMove rfl) rfl ?_
  refine wlVal (opGeq rfl rfl) rfl ?_
  refine wlVal (opMove rfl) rfl ?_
  cases h1 : decide (1 ≤ n)
  · skip
    refine wlOff rfl rfl rfl rfl ?_
    refine wlOff rfl rfl rfl rfl ?_
    refine wlVal (opPickF rfl rfl) rfl ?_
    refine wlVal (opAssign rfl) rfl ?_
    refine wlThen ?_
    refine wcRet ?_
    exact fun ac_ ha => hQ _ _ _ (results1 ha rfl rfl) ha.df (endS hC hw (by simp [nodeB, *]))
  · skip
    refine wlOn rfl rfl ?_
    refine wlVal (opMove rfl) rfl ?_
    refine wlOn rfl rfl ?_
    refine wlVal (opLeq rfl rfl) rfl ?_
    refine wlVal (opPickT rfl rfl) rfl ?_
    refine wlVal (opAssign rfl) rfl ?_
    refine wlThen ?_
    refine wcRet ?_
    exact fun ac_ ha => hQ _ _ _ (results1 ha rfl rfl) ha.df (endS hC hw (by simp [nodeB, *]))

theorem isNaN_ret (G0 : Gh) (w0 : World) (hw : Holds G0 w0) (n : Int) :
    RetS Tryd.prog 73 #[.int .i64 n] G0 w0 (.bool false) := by
  have hC := Cx.refl hw
  have hB : Bxs G0 w0 w0.heap.size [] := Bxs.nil _ _ _
  refine callsOf Tryd.func73 rfl _ Tryd.ntmps73 rfl _ (argsCons argsNil (t := 0) rfl) ?_; intro Q0 hQ
  refine wcSeq ?_
  refine wcRegion ?_
  refine wlVal (opAssign rfl) rfl ?_
  refine wlThen ?_
  refine wcSeq ?_
  refine wcRegion ?_
  refine wlVal (opMove rfl) rfl ?_
  refine wlVal (opMove rfl) rfl ?_
  refine wlVal (opNeq rfl rfl) rfl ?_
  refine wlVal (opAssign rfl) rfl ?_
  refine wlThen ?_
  refine wcRet ?_
  exact fun ac_ ha => hQ _ _ _ (results1 ha rfl rfl) ha.df (endS hC hw (by simp))

theorem isNaN2_ret (G0 : Gh) (w0 : World) (hw : Holds G0 w0) (n : Int) :
    RetS Tryd.prog 70 #[.int .i64 n] G0 w0 (.bool false) := by
  have hC := Cx.refl hw
  have hB : Bxs G0 w0 w0.heap.size [] := Bxs.nil _ _ _
  refine callsOf Tryd.func70 rfl _ Tryd.ntmps70 rfl _ (argsCons argsNil (t := 0) rfl) ?_; intro Q0 hQ
  refine wcSeq ?_
  refine wcRegion ?_
  refine wlVal (opAssign rfl) rfl ?_
  refine wlThen ?_
  refine wcSeq ?_
  refine wcRegion ?_
  refine wlVal (opMove rfl) rfl ?_
  refine wlVal (opMove rfl) rfl ?_
  refine wlVal (opNeq rfl rfl) rfl ?_
  refine wlVal (opAssign rfl) rfl ?_
  refine wlThen ?_
  refine wcRet ?_
  exact fun ac_ ha => hQ _ _ _ (results1 ha rfl rfl) ha.df (endS hC hw (by simp))

theorem less_ret (G0 : Gh) (w0 : World) (hw : Holds G0 w0) (x : Int) (y : Int) :
    RetS Tryd.prog 72 #[.int .i64 x, .int .i64 y] G0 w0 (.bool (decide (x < y))) := by
  have hC := Cx.refl hw
  have hB : Bxs G0 w0 w0.heap.size [] := Bxs.nil _ _ _
  refine callsOf Tryd.func72 rfl _ Tryd.ntmps72 rfl _ (argsCons (argsCons argsNil (t := 0) rfl) (t := 1) rfl) ?_; intro Q0 hQ
  refine wcSeq ?_
  refine wcRegion ?_
  refine wlVal (opAssign rfl) rfl ?_
  refine wlThen ?_
  refine wcSeq ?_
  refine wcRegion ?_
  refine wlVal (opMove rfl) rfl ?_
  refine wlCallS hC hB rfl co70 rfl rfl (isNaN2_ret _ _ hC.holds x) ?_; intro w hk hC hB
  refine wlVal (opMove rfl) rfl ?_
  refine wlOff rfl rfl rfl rfl ?_
  refine wlOff rfl rfl rfl rfl ?_
  refine wlOff rfl rfl rfl rfl ?_
  refine wlVal (opPickF rfl rfl) rfl ?_
  refine wlVal (opMove rfl) rfl ?_
  refine wlOn rfl rfl ?_
  refine wlVal (opMove rfl) rfl ?_
  refine wlOn rfl rfl ?_
  refine wlVal (opMove rfl) rfl ?_
  refine wlOn rfl rfl ?_
  refine wlVal (opLss rfl rfl) rfl ?_
  refine wlVal (opPickF rfl rfl) rfl ?_
  refine wlVal (opAssign rfl) rfl ?_
  refine wlThen ?_
  refine wcRet ?_
  exact fun ac_ ha => hQ _ _ _ (results1 ha rfl rfl) ha.df (endS hC hw (by simp [*]))

theorem compare_ret (G0 : Gh) (w0 : World) (hw : Holds G0 w0) (x : Int) (y : Int) :
    RetS Tryd.prog 55 #[.int .i64 x, .int .i64 y] G0 w0 (.int .i64 (cmpI x y)) := by
  have hC := Cx.refl hw
  have hB : Bxs G0 w0 w0.heap.size [] := Bxs.nil _ _ _
  refine callsOf Tryd.func55 rfl _ Tryd.ntmps55 rfl _ (argsCons (argsCons argsNil (t := 0) rfl) (t := 1) rfl) ?_; intro Q0 hQ
  refine wcSeq ?_
  refine wcRegion ?_
  refine wlVal (opAssign rfl) rfl ?_
  refine wlThen ?_
  refine wcSeq ?_
  refine wcRegion ?_
  refine wlVal (opMove rfl) rfl ?_
  refine wlCallS hC hB rfl co70 rfl rfl (isNaN2_ret _ _ hC.holds x) ?_; intro w hk hC hB
  refine wlVal (opAssign rfl) rfl ?_
  refine wlThen ?_
  refine wcSeq ?_
  refine wcRegion ?_
  refine wlVal (opMove rfl) rfl ?_
  refine wlCallS hC hB rfl co70 rfl rfl (isNaN2_ret _ _ hC.holds y) ?_; intro w hk hC hB
  refine wlVal (opAssign rfl) rfl ?_
  refine wlThen ?_
  refine wcSeq ?_
  refine wcSeq ?_
  refine wcRegion ?_
  refine wlVal (opMove rfl) rfl ?_
  refine wlThen ?_
  refine wcCondF rfl ?_
  refine wcSkip ?_
  refine wcOf ?_
  refine wcSeq ?_
  refine wcSeq ?_
  refine wcRegion ?_
  refine wlVal (opMove rfl) rfl ?_
  refine wlThen ?_
  refine wcCondF rfl ?_
  refine wcSkip ?_
  refine wcOf ?_
  refine wcSeq ?_
  refine wcSeq ?_
  refine wcRegion ?_
  refine wlVal (opMove rfl) rfl ?_
  refine wlVal (opMove rfl) rfl ?_
  refine wlVal (opLss rfl rfl) rfl ?_
  refine wlThen ?_
  cases h1 : decide (x < y)
  · skip
    refine wcCondF rfl ?_
    refine wcSkip ?_
    refine wcOf ?_
    refine wcSeq ?_
    refine wcSeq ?_
    refine wcRegion ?_
    refine wlVal (opMove rfl) rfl ?_
    refine wlVal (opMove rfl) rfl ?_
    refine wlVal (opGtr rfl rfl) rfl ?_
    refine wlThen ?_
    cases h2 : decide (y < x)
    · skip
      refine wcCondF rfl ?_
      refine wcSkip ?_
      refine wcOf ?_
      refine wcSeq ?_
      refine wcRegion ?_
      refine wlVal (opAssign rfl) rfl ?_
      refine wlThen ?_
      refine wcRet ?_
      exact fun ac_ ha => hQ _ _ _ (results1 ha rfl rfl) ha.df (endS hC hw (by first | (simp_all [cmpI]; done) | (simp at *; unfold cmpI; (repeat split) <;> omega)))
    · skip
      refine wcCondT rfl ?_
      refine wcSeq ?_
      refine wcRegion ?_
      refine wlVal (opAssign rfl) rfl ?_
      refine wlThen ?_
      refine wcRet ?_
      exact fun ac_ ha => hQ _ _ _ (results1 ha rfl rfl) ha.df (endS hC hw (by first | (simp_all [cmpI]; done) | (simp at *; unfold cmpI; (repeat split) <;> omega)))
  · skip
    refine wcCondT rfl ?_
    refine wcSeq ?_
    refine wcRegion ?_
    refine wlVal (opAssign rfl) rfl ?_
    refine wlThen ?_
    refine wcRet ?_
    exact fun ac_ ha => hQ _ _ _ (results1 ha rfl rfl) ha.df (endS hC hw (by first | (simp_all [cmpI]; done) | (simp at *; unfold cmpI; (repeat split) <;> omega)))

theorem check_ret (G0 : Gh) (w0 : World) (hw : Holds G0 w0) (csc : List Value) (c : Crew) (hc : Rp.Is G0 csc c) :
    RetS Tryd.prog 42 #[.agg csc.toArray] G0 w0 (.int .i64 (check c)) := by
  have hC := Cx.refl hw
  have hB : Bxs G0 w0 w0.heap.size [] := Bxs.nil _ _ _
  obtain ⟨v1, rfl, hs2⟩ := Crew.opIs hc
  obtain ⟨A3, cap4, rfl⟩ := hs2.form
  refine callsOf Tryd.func42 rfl _ Tryd.ntmps42 rfl _ (argsCons argsNil (t := 0) rfl) ?_; intro Q0 hQ
  refine wcSeq ?_
  refine wcRegion ?_
  refine wlBox (cs := [(.int .i64 c.faults), (.slice A3 c.nodes.length cap4)]) hC hB rfl rfl rfl ?_; intro b5 w hk hC hB
  refine wlVal (opAssign rfl) rfl ?_
  refine wlThen ?_
  refine wcSeq ?_
  refine wcSeq ?_
  refine wcRegion ?_
  refine wlVal (opFieldAddr rfl fo53_0) rfl ?_
  refine wlVal (opLoadOne (v := (.int .i64 c.faults)) rfl (hB.cell (i := 0) rfl rfl) one3) rfl ?_
  refine wlVal (opLss rfl rfl) rfl ?_
  refine wlVal (opMove rfl) rfl ?_
  cases h6 : decide (c.faults < 0)
  · skip
    refine wlOn rfl rfl ?_
    refine wlVal (opFieldAddr rfl fo53_0) rfl ?_
    refine wlOn rfl rfl ?_
    refine wlVal (opLoadOne (v := (.int .i64 c.faults)) rfl (hB.cell (i := 0) rfl rfl) one3) rfl ?_
    refine wlOn rfl rfl ?_
    refine wlVal (opGtr rfl rfl) rfl ?_
    refine wlVal (opPickF rfl rfl) rfl ?_
    refine wlVal (opMove rfl) rfl ?_
    cases h7 : decide (2 < c.faults)
    · skip
      refine wlOn rfl rfl ?_
      refine wlVal (opFieldAddr rfl fo53_1) rfl ?_
      refine wlOn rfl rfl ?_
      refine wlVal (opLoadOne (v := (.slice A3 c.nodes.length cap4)) rfl (hB.cell (i := 0) rfl rfl) one51) rfl ?_
      refine wlOn rfl rfl ?_
      refine wlVal (opLen rfl isl51) rfl ?_
      refine wlOn rfl rfl ?_
      refine wlVal (opFieldAddr rfl fo53_0) rfl ?_
      refine wlOn rfl rfl ?_
      refine wlVal (opLoadOne (v := (.int .i64 c.faults)) rfl (hB.cell (i := 0) rfl rfl) one3) rfl ?_
      refine wlOn rfl rfl ?_
      refine wlVal (opMul rfl rfl) rfl ?_
      refine wlOn rfl rfl ?_
      refine wlVal (opAdd rfl rfl) rfl ?_
      refine wlOn rfl rfl ?_
      refine wlVal (opNeq rfl rfl) rfl ?_
      refine wlVal (opPickF rfl rfl) rfl ?_
      refine wlThen ?_
      cases h8 : (((c.nodes.length : Nat) : Int)) != (IntKind.wrap .i64 (IntKind.wrap .i64 (3 * c.faults) + 1))
      · skip
        refine wcCondF rfl ?_
        refine wcSkip ?_
        refine wcOf ?_
        refine wcSeq ?_
        refine wcRegion ?_
        refine wlVal (opAssign rfl) rfl ?_
        refine wlThen ?_
        refine wcSeq ?_
        refine wcSeq ?_
        refine wcRegion ?_
        refine wlVal (opFieldAddr rfl fo53_1) rfl ?_
        refine wlVal (opLoadOne (v := (.slice A3 c.nodes.length cap4)) rfl (hB.cell (i := 0) rfl rfl) one51) rfl ?_
        refine wlVal (opLen rfl isl51) rfl ?_
        refine wlVal (opMove rfl) rfl ?_
        refine wlThen ?_
        refine wcBlock ?_
        refine WC.sub (wrInd (ι := Nat × Int) (fun i => match i with | (k, last) => c.nodes.length - k) (fun i G w => match i with | (k, last) => Cx w0 G0 G w ∧ Bxs G w w0.heap.size [(b5, 53, [(.int .i64 c.faults), (.slice A3 c.nodes.length cap4)])] ∧ Sl G (.slice A3 c.nodes.length cap4) c.nodes ∧ risesB last (c.nodes.drop k) = risesB 0 c.nodes) (fun i => match i with | (k, last) => ((((Env.nil.put 3 (.int .i64 last)).put 25 (.slice A3 c.nodes.length cap4)).put 26 (.int .i64 (((c.nodes.length : Nat) : Int)))).put 27 (.int .i64 (((k : Nat) : Int))))) ?_ (0, 0) _ _ ⟨hC, hB, hs2, rfl⟩) (fun _ ha => ((((ha.start.cons ha (t := 3) rfl).cons ha (t := 25) rfl).cons ha (t := 26) rfl).cons ha (t := 27) rfl))
        rintro ⟨k, last⟩ G w N0 IH0 ⟨hC, hB, hs2, hI⟩
        show WC _ _ _ _ ((((Env.nil.put 3 (.int .i64 last)).put 25 (.slice A3 c.nodes.length cap4)).put 26 (.int .i64 (((c.nodes.length : Nat) : Int)))).put 27 (.int .i64 (((k : Nat) : Int)))) w
        refine wcSeq ?_
        refine wcRegion ?_
        refine wlVal (opLssN rfl rfl) rfl ?_
        refine wlThen ?_
        refine wcSeq ?_
        cases h9 : decide (k < c.nodes.length)
        · skip
          refine wcCondF rfl ?_
          refine wcExit ?_
          refine wcOf ?_
          refine wcSeq ?_
          refine wcRegion ?_
          refine wlVal (opAssign rfl) rfl ?_
          refine wlThen ?_
          refine wcRet ?_
          exact fun ac_ ha => hQ _ _ _ (results1 ha rfl rfl) ha.df (endS hC hw (by have e := hI; rw [List.drop_eq_nil_of_le (Nat.le_of_not_lt (of_decide_eq_false h9))] at e; simp [risesB, h6, h7, h8, h9] at e; simp [check, h6, h7, h8, h9, e]))
        · skip
          refine wcCondT rfl ?_
          refine wcSkip ?_
          refine wcOf ?_
          refine wcSeq ?_
          refine wcBlock ?_
          refine wcSeq ?_
          refine wcRegion ?_
          obtain ⟨x10, hx11⟩ : ∃ y_, c.nodes[k]? = some y_ := ⟨_, List.getElem?_eq_getElem (of_decide_eq_true h9)⟩
          obtain ⟨b12, o13, row14, hA17, hr15, hi16⟩ := hs2.elem hx11; subst hA17
          obtain rfl := hi16
          refine wlVal (opIndexAddr rfl rfl slo51 (of_decide_eq_true h9)) rfl ?_
          refine wlVal (opLoadOne (v := (.int .i64 x10)) rfl (RowG.cell0 hC.holds hr15 rfl) one3) rfl ?_
          refine wlVal (opAssign rfl) rfl ?_
          refine wlThen ?_
          refine wcSeq ?_
          refine wcSeq ?_
          refine wcRegion ?_
          refine wlVal (opMove rfl) rfl ?_
          refine wlVal (opMove rfl) rfl ?_
          refine wlVal (opLeq rfl rfl) rfl ?_
          refine wlVal (opMove rfl) rfl ?_
          cases h18 : decide (x10 ≤ last)
          · skip
            refine wlOn rfl rfl ?_
            refine wlVal (opMove rfl) rfl ?_
            refine wlOn rfl rfl ?_
            refine wlCallS hC hB rfl co57 rfl rfl (node_ret _ _ hC.holds x10) ?_; intro w hk hC hB
            refine wlOn rfl rfl ?_
            refine wlVal (opNot rfl) rfl ?_
            refine wlVal (opPickF rfl rfl) rfl ?_
            refine wlThen ?_
            cases h19 : (nodeB x10)
            · skip
              refine wcCondT rfl ?_
              refine wcSeq ?_
              refine wcRegion ?_
              refine wlVal (opAssign rfl) rfl ?_
              refine wlThen ?_
              refine wcRet ?_
              exact fun ac_ ha => hQ _ _ _ (results1 ha rfl rfl) ha.df (endS hC hw (by have e := hI; rw [drop_get hx11] at e; simp [risesB, h6, h7, h8, h9, h18, h19] at e; simp [check, h6, h7, h8, h9, h18, h19, e]))
            · skip
              refine wcCondF rfl ?_
              refine wcSkip ?_
              refine wcOf ?_
              refine wcRegion ?_
              refine wlVal (opMove rfl) rfl ?_
              refine wlVal (opAssign rfl) rfl ?_
              refine wlNil ?_
              refine wcOf ?_
              refine wcRegion ?_
              refine wlVal (opIncr rfl rfl (incr_ok (of_decide_eq_true h9) hs2.le)) rfl ?_
              refine wlVal (opMove rfl) rfl ?_
              refine wlRound ?_
              exact (IH0 (k + 1, x10) _ _ ⟨hC, hB, hs2, (by rw [← hI, drop_get hx11]; simp [risesB, h6, h7, h8, h9, h18, h19])⟩ (by have := of_decide_eq_true h9; simp; omega)).sub (fun _ ha => ((((ha.start.cons ha (t := 3) rfl).cons ha (t := 25) rfl).cons ha (t := 26) rfl).cons ha (t := 27) rfl))
          · skip
            refine wlOff rfl rfl rfl rfl ?_
            refine wlOff rfl rfl rfl rfl ?_
            refine wlOff rfl rfl rfl rfl ?_
            refine wlVal (opPickT rfl rfl) rfl ?_
            refine wlThen ?_
            refine wcCondT rfl ?_
            refine wcSeq ?_
            refine wcRegion ?_
            refine wlVal (opAssign rfl) rfl ?_
            refine wlThen ?_
            refine wcRet ?_
            exact fun ac_ ha => hQ _ _ _ (results1 ha rfl rfl) ha.df (endS hC hw (by have e := hI; rw [drop_get hx11] at e; simp [risesB, h6, h7, h8, h9, h18] at e; simp [check, h6, h7, h8, h9, h18, e]))
      · skip
        refine wcCondT rfl ?_
        refine wcSeq ?_
        refine wcRegion ?_
        refine wlVal (opAssign rfl) rfl ?_
        refine wlThen ?_
        refine wcRet ?_
        exact fun ac_ ha => hQ _ _ _ (results1 ha rfl rfl) ha.df (endS hC hw (by simp [check, h6, h7, h8]))
    · skip
      refine wlOff rfl rfl rfl rfl ?_
      refine wlOff rfl rfl rfl rfl ?_
      refine wlOff rfl rfl rfl rfl ?_
      refine wlOff rfl rfl rfl rfl ?_
      refine wlOff rfl rfl rfl rfl ?_
      refine wlOff rfl rfl rfl rfl ?_
      refine wlOff rfl rfl rfl rfl ?_
      refine wlOff rfl rfl rfl rfl ?_
      refine wlVal (opPickT rfl rfl) rfl ?_
      refine wlThen ?_
      refine wcCondT rfl ?_
      refine wcSeq ?_
      refine wcRegion ?_
      refine wlVal (opAssign rfl) rfl ?_
      refine wlThen ?_
      refine wcRet ?_
      exact fun ac_ ha => hQ _ _ _ (results1 ha rfl rfl) ha.df (endS hC hw (by simp [check, h6, h7]))
  · skip
    refine wlOff rfl rfl rfl rfl ?_
    refine wlOff rfl rfl rfl rfl ?_
    refine wlOff rfl rfl rfl rfl ?_
    refine wlVal (opPickT rfl rfl) rfl ?_
    refine wlVal (opMove rfl) rfl ?_
    refine wlOff rfl rfl rfl rfl ?_
    refine wlOff rfl rfl rfl rfl ?_
    refine wlOff rfl rfl rfl rfl ?_
    refine wlOff rfl rfl rfl rfl ?_
    refine wlOff rfl rfl rfl rfl ?_
    refine wlOff rfl rfl rfl rfl ?_
    refine wlOff rfl rfl rfl rfl ?_
    refine wlOff rfl rfl rfl rfl ?_
    refine wlVal (opPickT rfl rfl) rfl ?_
    refine wlThen ?_
    refine wcCondT rfl ?_
    refine wcSeq ?_
    refine wcRegion ?_
    refine wlVal (opAssign rfl) rfl ?_
    refine wlThen ?_
    refine wcRet ?_
    exact fun ac_ ha => hQ _ _ _ (results1 ha rfl rfl) ha.df (endS hC hw (by simp [check, h6]))

theorem bs_ret (G0 : Gh) (w0 : World) (hw : Holds G0 w0) (vxs : Value) (xs : List Int) (hxs : Sl G0 vxs xs) (t : Int) :
    RetS Tryd.prog 58 #[vxs, .int .i64 t] G0 w0 (.tuple #[(.int .i64 (((bsI xs t : Nat) : Int))), (.bool (bsF xs t))]) := by
  have hC := Cx.refl hw
  have hB : Bxs G0 w0 w0.heap.size [] := Bxs.nil _ _ _
  obtain ⟨A1, cap2, rfl⟩ := hxs.form
  refine callsOf Tryd.func58 rfl _ Tryd.ntmps58 rfl _ (argsCons (argsCons argsNil (t := 0) rfl) (t := 1) rfl) ?_; intro Q0 hQ
  refine wcSeq ?_
  refine wcRegion ?_
  refine wlVal (opAssign rfl) rfl ?_
  refine wlVal (opAssign rfl) rfl ?_
  refine wlThen ?_
  refine wcSeq ?_
  refine wcRegion ?_
  refine wlVal (opMove rfl) rfl ?_
  refine wlVal (opLen rfl isl51) rfl ?_
  refine wlVal (opAssign rfl) rfl ?_
  refine wlThen ?_
  refine wcSeq ?_
  refine wcRegion ?_
  refine wlVal (opMove rfl) rfl ?_
  refine wlVal (opAssign rfl) rfl ?_
  refine wlVal (opAssign rfl) rfl ?_
  refine wlThen ?_
  refine wcSeq ?_
  refine wcBlock ?_
  refine WC.sub (wrInd (ι := Nat × Nat × Nat) (fun i => match i with | (i, j, f) => j - i) (fun i G w => match i with | (i, j, f) => Cx w0 G0 G w ∧ Bxs G w w0.heap.size [] ∧ Sl G (.slice A1 xs.length cap2) xs ∧ j ≤ xs.length ∧ j ≤ i + f ∧ bsGo xs t f i j = bsI xs t) (fun i => match i with | (i, j, f) => (((((Env.nil.put 0 (.slice A1 xs.length cap2)).put 1 (.int .i64 t)).put 6 (.int .i64 (((xs.length : Nat) : Int)))).put 7 (.int .i64 (((i : Nat) : Int)))).put 8 (.int .i64 (((j : Nat) : Int))))) ?_ (0, xs.length, xs.length) _ _ ⟨hC, hB, hxs, (Nat.le_refl _), (by omega), rfl⟩) (fun _ ha => (((((ha.start.cons ha (t := 0) rfl).cons ha (t := 1) rfl).cons ha (t := 6) rfl).cons ha (t := 7) rfl).cons ha (t := 8) rfl))
  rintro ⟨i, j, f⟩ G w N0 IH0 ⟨hC, hB, hxs, hj, hf, hI⟩
  show WC _ _ _ _ (((((Env.nil.put 0 (.slice A1 xs.length cap2)).put 1 (.int .i64 t)).put 6 (.int .i64 (((xs.length : Nat) : Int)))).put 7 (.int .i64 (((i : Nat) : Int)))).put 8 (.int .i64 (((j : Nat) : Int)))) w
  refine wcSeq ?_
  refine wcSeq ?_
  refine wcRegion ?_
  refine wlVal (opMove rfl) rfl ?_
  refine wlVal (opMove rfl) rfl ?_
  refine wlVal (opLssN rfl rfl) rfl ?_
  refine wlThen ?_
  cases h3 : decide (i < j)
  · skip
    refine wcCondF rfl ?_
    refine wcExit ?_
    refine wcOf ?_
    refine wcSeq ?_
    refine wcRegion ?_
    refine wlVal (opMove rfl) rfl ?_
    refine wlVal (opMove rfl) rfl ?_
    refine wlVal (opMove rfl) rfl ?_
    refine wlVal (opLssN rfl rfl) rfl ?_
    refine wlVal (opMove rfl) rfl ?_
    cases h4 : decide (i < xs.length)
    · skip
      refine wlOff rfl rfl rfl rfl ?_
      refine wlOff rfl rfl rfl rfl ?_
      refine wlOff rfl rfl rfl rfl ?_
      refine wlOff rfl rfl rfl rfl ?_
      refine wlOff rfl rfl rfl rfl ?_
      refine wlOff rfl rfl rfl rfl ?_
      refine wlOff rfl rfl rfl rfl ?_
      refine wlOffU rfl rfl rfl ?_
      refine wlOffU rfl rfl rfl ?_
      refine wlOffU rfl rfl rfl ?_
      refine wlOffU rfl rfl rfl ?_
      refine wlOffU rfl rfl rfl ?_
      refine wlOffU rfl rfl rfl ?_
      refine wlOffU rfl rfl rfl ?_
      refine wlOffU rfl rfl rfl ?_
      refine wlOffU rfl rfl rfl ?_
      refine wlOff rfl rfl rfl rfl ?_
      refine wlVal (opPickF rfl rfl) rfl ?_
      refine wlVal (opAssign rfl) rfl ?_
      refine wlVal (opAssign rfl) rfl ?_
      refine wlThen ?_
      refine wcRet ?_
      exact fun ac_ ha => hQ _ _ _ (results2 ha rfl rfl rfl) ha.df (endS hC hw (by have e := bsGo_done xs t f i j (of_decide_eq_false h3); rw [hI] at e; simp [bsF, h3, h4, e]))
    · skip
      refine wlOn rfl rfl ?_
      refine wlVal (opMove rfl) rfl ?_
      refine wlOn rfl rfl ?_
      refine wlVal (opMove rfl) rfl ?_
      refine wlOn rfl rfl ?_
      obtain ⟨x5, hx6⟩ : ∃ y_, xs[i]? = some y_ := ⟨_, List.getElem?_eq_getElem (of_decide_eq_true h4)⟩
      obtain ⟨b7, o8, row9, hA12, hr10, hi11⟩ := hxs.elem hx6; subst hA12
      obtain rfl := hi11
      refine wlVal (opIndexAddr rfl rfl slo51 (of_decide_eq_true h4)) rfl ?_
      refine wlOn rfl rfl ?_
      refine wlVal (opLoadOne (v := (.int .i64 x5)) rfl (RowG.cell0 hC.holds hr10 rfl) one3) rfl ?_
      refine wlOn rfl rfl ?_
      refine wlVal (opMove rfl) rfl ?_
      refine wlOn rfl rfl ?_
      refine wlVal (opEql rfl rfl) rfl ?_
      refine wlOn rfl rfl ?_
      refine wlVal (opMove rfl) rfl ?_
      cases h13 : x5 == t
      · skip
        refine wlOn rfl rfl ?_
        refine wlVal (opMove rfl) rfl ?_
        refine wlOn rfl rfl ?_
        refine wlVal (opMove rfl) rfl ?_
        refine wlOn rfl rfl ?_
        refine wlVal (opIndexAddr rfl rfl slo51 (of_decide_eq_true h4)) rfl ?_
        refine wlOn rfl rfl ?_
        refine wlVal (opLoadOne (v := (.int .i64 x5)) rfl (RowG.cell0 hC.holds hr10 rfl) one3) rfl ?_
        refine wlOn rfl rfl ?_
        refine wlCallS hC hB rfl co73 rfl rfl (isNaN_ret _ _ hC.holds x5) ?_; intro w hk hC hB
        refine wlOn rfl rfl ?_
        refine wlVal (opMove rfl) rfl ?_
        refine wlOff rfl rfl rfl rfl ?_
        refine wlOff rfl rfl rfl rfl ?_
        refine wlOn rfl rfl ?_
        refine wlVal (opPickF rfl rfl) rfl ?_
        refine wlOn rfl rfl ?_
        refine wlVal (opPickF rfl rfl) rfl ?_
        refine wlVal (opPickT rfl rfl) rfl ?_
        refine wlVal (opAssign rfl) rfl ?_
        refine wlVal (opAssign rfl) rfl ?_
        refine wlThen ?_
        refine wcRet ?_
        exact fun ac_ ha => hQ _ _ _ (results2 ha rfl rfl rfl) ha.df (endS hC hw (by have e := bsGo_done xs t f i j (of_decide_eq_false h3); rw [hI] at e; simp [bsF, h3, h4, h13, e, hx6]))
      · skip
        refine wlOff rfl rfl rfl rfl ?_
        refine wlOff rfl rfl rfl rfl ?_
        refine wlOff rfl rfl rfl rfl ?_
        refine wlOff rfl rfl rfl rfl ?_
        refine wlOff rfl rfl rfl rfl ?_
        refine wlOff rfl rfl rfl rfl ?_
        refine wlOffU rfl rfl rfl ?_
        refine wlOffU rfl rfl rfl ?_
        refine wlOff rfl rfl rfl rfl ?_
        refine wlOn rfl rfl ?_
        refine wlVal (opPickT rfl rfl) rfl ?_
        refine wlVal (opPickT rfl rfl) rfl ?_
        refine wlVal (opAssign rfl) rfl ?_
        refine wlVal (opAssign rfl) rfl ?_
        refine wlThen ?_
        refine wcRet ?_
        exact fun ac_ ha => hQ _ _ _ (results2 ha rfl rfl rfl) ha.df (endS hC hw (by have e := bsGo_done xs t f i j (of_decide_eq_false h3); rw [hI] at e; simp [bsF, h3, h4, h13, e, hx6]))
  · skip
    refine wcCondT rfl ?_
    refine wcSkip ?_
    refine wcOf ?_
    refine wcBlock ?_
    refine wcSeq ?_
    refine wcRegion ?_
    refine wlVal (opMove rfl) rfl ?_
    refine wlVal (opMove rfl) rfl ?_
    refine wlVal (opAddN rfl rfl (by have := hxs.le; unfold maxL at this; have := of_decide_eq_true h3; omega)) rfl ?_
    refine wlVal (opConvN rfl un3 ui88 (wrap_u64_nat (by have := hxs.le; unfold maxL at this; have := of_decide_eq_true h3; omega))) rfl ?_
    refine wlVal (opHalf rfl rfl) rfl ?_
    refine wlVal (opConvN rfl un88 ui3 (wrap_i64_nat (by have := hxs.le; unfold maxL at this; have := of_decide_eq_true h3; omega))) rfl ?_
    refine wlVal (opAssign rfl) rfl ?_
    refine wlThen ?_
    refine wcSeq ?_
    refine wcRegion ?_
    refine wlVal (opMove rfl) rfl ?_
    refine wlVal (opMove rfl) rfl ?_
    obtain ⟨x14, hx15⟩ : ∃ y_, xs[(i + j) / 2]? = some y_ := ⟨_, List.getElem?_eq_getElem (by have := of_decide_eq_true h3; omega)⟩
    obtain ⟨b16, o17, row18, hA21, hr19, hi20⟩ := hxs.elem hx15; subst hA21
    obtain rfl := hi20
    refine wlVal (opIndexAddr rfl rfl slo51 (by have := of_decide_eq_true h3; omega)) rfl ?_
    refine wlVal (opLoadOne (v := (.int .i64 x14)) rfl (RowG.cell0 hC.holds hr19 rfl) one3) rfl ?_
    refine wlVal (opMove rfl) rfl ?_
    refine wlCallS hC hB rfl co72 rfl rfl (less_ret _ _ hC.holds x14 t) ?_; intro w hk hC hB
    refine wlThen ?_
    cases h22 : (decide (x14 < t))
    · skip
      refine wcCondF rfl ?_
      refine wcRegion ?_
      refine wlVal (opMove rfl) rfl ?_
      refine wlVal (opAssign rfl) rfl ?_
      refine wlNil ?_
      refine wrOf ?_
      have hij := of_decide_eq_true h3
      exact (IH0 (i, (i + j) / 2, (f - 1)) _ _ ⟨hC, hB, hxs, (by omega), (by omega), (by rw [← hI, bsGo_step xs t f i j (by omega) (by omega) hx15, h22]; rfl)⟩ (by have := of_decide_eq_true h3; simp; omega)).sub (fun _ ha => (((((ha.start.cons ha (t := 0) rfl).cons ha (t := 1) rfl).cons ha (t := 6) rfl).cons ha (t := 7) rfl).cons ha (t := 8) rfl))
    · skip
      refine wcCondT rfl ?_
      refine wcRegion ?_
      refine wlVal (opMove rfl) rfl ?_
      refine wlVal (opIncr rfl rfl (by have := hxs.le; unfold maxL at this; have := of_decide_eq_true h3; omega)) rfl ?_
      refine wlVal (opAssign rfl) rfl ?_
      refine wlNil ?_
      refine wrOf ?_
      have hij := of_decide_eq_true h3
      exact (IH0 ((i + j) / 2 + 1, j, (f - 1)) _ _ ⟨hC, hB, hxs, (by omega), (by omega), (by rw [← hI, bsGo_step xs t f i j (by omega) (by omega) hx15, h22]; rfl)⟩ (by have := of_decide_eq_true h3; simp; omega)).sub (fun _ ha => (((((ha.start.cons ha (t := 0) rfl).cons ha (t := 1) rfl).cons ha (t := 6) rfl).cons ha (t := 7) rfl).cons ha (t := 8) rfl))

theorem has_ret (G0 : Gh) (w0 : World) (hw : Holds G0 w0) (csc : List Value) (c : Crew) (hc : Rp.Is G0 csc c) (n : Int) :
    RetS Tryd.prog 43 #[.agg csc.toArray, .int .i64 n] G0 w0 (.bool (has c n)) := by
  have hC := Cx.refl hw
  have hB : Bxs G0 w0 w0.heap.size [] := Bxs.nil _ _ _
  obtain ⟨v1, rfl, hs2⟩ := Crew.opIs hc
  obtain ⟨A3, cap4, rfl⟩ := hs2.form
  refine callsOf Tryd.func43 rfl _ Tryd.ntmps43 rfl _ (argsCons (argsCons argsNil (t := 0) rfl) (t := 1) rfl) ?_; intro Q0 hQ
  refine wcSeq ?_
  refine wcRegion ?_
  refine wlBox (cs := [(.int .i64 c.faults), (.slice A3 c.nodes.length cap4)]) hC hB rfl rfl rfl ?_; intro b5 w hk hC hB
  refine wlVal (opAssign rfl) rfl ?_
  refine wlThen ?_
  refine wcSeq ?_
  refine wcRegion ?_
  refine wlVal (opFieldAddr rfl fo53_1) rfl ?_
  refine wlVal (opLoadOne (v := (.slice A3 c.nodes.length cap4)) rfl (hB.cell (i := 0) rfl rfl) one51) rfl ?_
  refine wlVal (opMove rfl) rfl ?_
  refine wlCallS hC hB rfl co58 rfl rfl (bs_ret _ _ hC.holds _ c.nodes hs2 n) ?_; intro w hk hC hB
  refine wlVal (opMove rfl) rfl ?_
  refine wlVal (opExtract rfl rfl) rfl ?_
  refine wlVal (opExtract rfl rfl) rfl ?_
  refine wlVal (opAssign rfl) rfl ?_
  refine wlVal (opAssign rfl) rfl ?_
  refine wlThen ?_
  refine wcSeq ?_
  refine wcRegion ?_
  refine wlVal (opLoadRow (cs := [(.int .i64 c.faults), (.slice A3 c.nodes.length cap4)]) rfl (hB.range (i := 0) (m := 2) rfl rfl) row53 rfl) rfl ?_
  refine wlCallS hC hB rfl co42 rfl rfl (check_ret _ _ hC.holds _ c (Crew.mkIs (x := c) hs2)) ?_; intro w hk hC hB
  refine wlVal (opEql rfl rfl) rfl ?_
  refine wlVal (opMove rfl) rfl ?_
  cases h6 : ((check c)) == 0
  · skip
    refine wlOff rfl rfl rfl rfl ?_
    refine wlVal (opPickF rfl rfl) rfl ?_
    refine wlVal (opAssign rfl) rfl ?_
    refine wlThen ?_
    refine wcRet ?_
    exact fun ac_ ha => hQ _ _ _ (results1 ha rfl rfl) ha.df (endS hC hw (by simp [has, h6]))
  · skip
    refine wlOn rfl rfl ?_
    refine wlVal (opMove rfl) rfl ?_
    refine wlVal (opPickT rfl rfl) rfl ?_
    refine wlVal (opAssign rfl) rfl ?_
    refine wlThen ?_
    refine wcRet ?_
    exact fun ac_ ha => hQ _ _ _ (results1 ha rfl rfl) ha.df (endS hC hw (by simp [has, h6]))

theorem most_ret (G0 : Gh) (w0 : World) (hw : Holds G0 w0) (csc : List Value) (c : Crew) (hc : Rp.Is G0 csc c) :
    RetS Tryd.prog 30 #[.agg csc.toArray] G0 w0 (.int .i64 (most c)) := by
  have hC := Cx.refl hw
  have hB : Bxs G0 w0 w0.heap.size [] := Bxs.nil _ _ _
  obtain ⟨v1, rfl, hs2⟩ := Crew.opIs hc
  obtain ⟨A3, cap4, rfl⟩ := hs2.form
  refine callsOf Tryd.func30 rfl _ Tryd.ntmps30 rfl _ (argsCons argsNil (t := 0) rfl) ?_; intro Q0 hQ
  refine wcSeq ?_
  refine wcRegion ?_
  refine wlBox (cs := [(.int .i64 c.faults), (.slice A3 c.nodes.length cap4)]) hC hB rfl rfl rfl ?_; intro b5 w hk hC hB
  refine wlVal (opAssign rfl) rfl ?_
  refine wlThen ?_
  refine wcSeq ?_
  refine wcSeq ?_
  refine wcRegion ?_
  refine wlVal (opLoadRow (cs := [(.int .i64 c.faults), (.slice A3 c.nodes.length cap4)]) rfl (hB.range (i := 0) (m := 2) rfl rfl) row53 rfl) rfl ?_
  refine wlCallS hC hB rfl co42 rfl rfl (check_ret _ _ hC.holds _ c (Crew.mkIs (x := c) hs2)) ?_; intro w hk hC hB
  refine wlVal (opNeq rfl rfl) rfl ?_
  refine wlThen ?_
  cases h6 : ((check c)) != 0
  · skip
    refine wcCondF rfl ?_
    refine wcSkip ?_
    refine wcOf ?_
    refine wcSeq ?_
    refine wcRegion ?_
    refine wlVal (opFieldAddr rfl fo53_0) rfl ?_
    refine wlVal (opLoadOne (v := (.int .i64 c.faults)) rfl (hB.cell (i := 0) rfl rfl) one3) rfl ?_
    refine wlVal (opMul rfl rfl) rfl ?_
    refine wlVal (opAdd rfl rfl) rfl ?_
    refine wlVal (opAssign rfl) rfl ?_
    refine wlThen ?_
    refine wcRet ?_
    exact fun ac_ ha => hQ _ _ _ (results1 ha rfl rfl) ha.df (endS hC hw (by simp [most, h6]))
  · skip
    refine wcCondT rfl ?_
    refine wcSeq ?_
    refine wcRegion ?_
    refine wlVal (opAssign rfl) rfl ?_
    refine wlThen ?_
    refine wcRet ?_
    exact fun ac_ ha => hQ _ _ _ (results1 ha rfl rfl) ha.df (endS hC hw (by simp [most, h6]))

theorem or_ret (G0 : Gh) (w0 : World) (hw : Holds G0 w0) (vl : Value) (l : List Int) (hl : Sl G0 vl l) :
    RetS Tryd.prog 54 #[vl] G0 w0 (.int .i64 (orI l)) := by
  have hC := Cx.refl hw
  have hB : Bxs G0 w0 w0.heap.size [] := Bxs.nil _ _ _
  obtain ⟨A1, cap2, rfl⟩ := hl.form
  refine callsOf Tryd.func54 rfl _ Tryd.ntmps54 rfl _ (argsCons argsNil (t := 0) rfl) ?_; intro Q0 hQ
  refine wcSeq ?_
  refine wcRegion ?_
  refine wlVal (opAssign rfl) rfl ?_
  refine wlThen ?_
  refine wcSeq ?_
  refine wcRegion ?_
  refine wlVal (opAssign rfl) rfl ?_
  refine wlThen ?_
  refine wcSeq ?_
  refine wcSeq ?_
  refine wcRegion ?_
  refine wlVal (opMove rfl) rfl ?_
  refine wlVal (opLen rfl isl51) rfl ?_
  refine wlVal (opMove rfl) rfl ?_
  refine wlThen ?_
  refine wcBlock ?_
  refine WC.sub (wrInd (ι := Nat) (fun k => l.length - k) (fun k G w => Cx w0 G0 G w ∧ Bxs G w w0.heap.size [] ∧ Sl G (.slice A1 l.length cap2) l ∧ orI (l.drop k) = orI l) (fun k => ((((Env.nil.put 3 (.int .i64 0)).put 6 (.slice A1 l.length cap2)).put 7 (.int .i64 (((l.length : Nat) : Int)))).put 8 (.int .i64 (((k : Nat) : Int))))) ?_ (0) _ _ ⟨hC, hB, hl, rfl⟩) (fun _ ha => ((((ha.start.cons ha (t := 3) rfl).cons ha (t := 6) rfl).cons ha (t := 7) rfl).cons ha (t := 8) rfl))
  rintro k G w N0 IH0 ⟨hC, hB, hl, hI⟩
  show WC _ _ _ _ ((((Env.nil.put 3 (.int .i64 0)).put 6 (.slice A1 l.length cap2)).put 7 (.int .i64 (((l.length : Nat) : Int)))).put 8 (.int .i64 (((k : Nat) : Int)))) w
  refine wcSeq ?_
  refine wcRegion ?_
  refine wlVal (opLssN rfl rfl) rfl ?_
  refine wlThen ?_
  refine wcSeq ?_
  cases h3 : decide (k < l.length)
  · skip
    refine wcCondF rfl ?_
    refine wcExit ?_
    refine wcOf ?_
    refine wcSeq ?_
    refine wcRegion ?_
    refine wlVal (opMove rfl) rfl ?_
    refine wlVal (opAssign rfl) rfl ?_
    refine wlThen ?_
    refine wcRet ?_
    exact fun ac_ ha => hQ _ _ _ (results1 ha rfl rfl) ha.df (endS hC hw (by have e := hI; rw [List.drop_eq_nil_of_le (Nat.le_of_not_lt (of_decide_eq_false h3))] at e; simp [orI, h3] at e; simp [e]))
  · skip
    refine wcCondT rfl ?_
    refine wcSkip ?_
    refine wcOf ?_
    refine wcSeq ?_
    refine wcBlock ?_
    refine wcSeq ?_
    refine wcRegion ?_
    obtain ⟨x4, hx5⟩ : ∃ y_, l[k]? = some y_ := ⟨_, List.getElem?_eq_getElem (of_decide_eq_true h3)⟩
    obtain ⟨b6, o7, row8, hA11, hr9, hi10⟩ := hl.elem hx5; subst hA11
    obtain rfl := hi10
    refine wlVal (opIndexAddr rfl rfl slo51 (of_decide_eq_true h3)) rfl ?_
    refine wlVal (opLoadOne (v := (.int .i64 x4)) rfl (RowG.cell0 hC.holds hr9 rfl) one3) rfl ?_
    refine wlVal (opAssign rfl) rfl ?_
    refine wlThen ?_
    refine wcSeq ?_
    refine wcRegion ?_
    refine wlVal (opMove rfl) rfl ?_
    refine wlVal (opMove rfl) rfl ?_
    refine wlVal (opNeq rfl rfl) rfl ?_
    refine wlThen ?_
    cases h12 : x4 != 0
    · skip
      refine wcCondF rfl ?_
      refine wcSkip ?_
      refine wcOf ?_
      refine wcRegion ?_
      refine wlVal (opIncr rfl rfl (incr_ok (of_decide_eq_true h3) hl.le)) rfl ?_
      refine wlVal (opMove rfl) rfl ?_
      refine wlRound ?_
      exact (IH0 (k + 1) _ _ ⟨hC, hB, hl, (by rw [← hI, drop_get hx5]; simp [orI, h3, h12])⟩ (by have := of_decide_eq_true h3; simp; omega)).sub (fun _ ha => ((((ha.start.cons ha (t := 3) rfl).cons ha (t := 6) rfl).cons ha (t := 7) rfl).cons ha (t := 8) rfl))
    · skip
      refine wcCondT rfl ?_
      refine wcSeq ?_
      refine wcRegion ?_
      refine wlVal (opMove rfl) rfl ?_
      refine wlVal (opAssign rfl) rfl ?_
      refine wlThen ?_
      refine wcRet ?_
      exact fun ac_ ha => hQ _ _ _ (results1 ha rfl rfl) ha.df (endS hC hw (by have e := hI; rw [drop_get hx5] at e; simp [orI, h3, h12] at e; simp [e]))

theorem bcmp_ret (G0 : Gh) (w0 : World) (hw : Holds G0 w0) (va : Value) (a : List UInt8) (ha : Sl G0 va a) (vb : Value) (b : List UInt8) (hb : Sl G0 vb b) :
    RetS Tryd.prog 56 #[va, vb] G0 w0 (.int .i64 (cmpB a b)) := by
  have hC := Cx.refl hw
  have hB : Bxs G0 w0 w0.heap.size [] := Bxs.nil _ _ _
  obtain ⟨A1, cap2, rfl⟩ := ha.form
  obtain ⟨A3, cap4, rfl⟩ := hb.form
  refine callsOf Tryd.func56 rfl _ Tryd.ntmps56 rfl _ (argsCons (argsCons argsNil (t := 0) rfl) (t := 1) rfl) ?_; intro Q0 hQ
  refine wcSeq ?_
  refine wcRegion ?_
  refine wlVal (opAssign rfl) rfl ?_
  refine wlThen ?_
  refine wcSeq ?_
  refine wcRegion ?_
  refine wlVal (opMove rfl) rfl ?_
  refine wlVal (opMove rfl) rfl ?_
  refine wlVal (opCallExt Tryd.func71 ext71b ext71n ext71x ext71f rfl (run_compare hC.holds ha hb)) rfl ?_
  refine wlVal (opAssign rfl) rfl ?_
  refine wlThen ?_
  refine wcRet ?_
  exact fun ac_ ha => hQ _ _ _ (results1 ha rfl rfl) ha.df (endS hC hw rfl)

theorem bring_ret (G0 : Gh) (w0 : World) (hw : Holds G0 w0) (n : Int) (m : Int) :
    RetS Tryd.prog 20 #[.int .i64 n, .int .i64 m] G0 w0 (.int .i64 ((bringI n m))) := by
  have hC := Cx.refl hw
  have hB : Bxs G0 w0 w0.heap.size [] := Bxs.nil _ _ _
  refine callsOf Tryd.func20 rfl _ Tryd.ntmps20 rfl _ (argsCons (argsCons argsNil (t := 0) rfl) (t := 1) rfl) ?_; intro Q0 hQ
  refine wcSeq ?_
  refine wcRegion ?_
  refine wlVal (opAssign rfl) rfl ?_
  refine wlThen ?_
  refine wcSeq ?_
  refine wcSeq ?_
  refine wcRegion ?_
  refine wlVal (opMove rfl) rfl ?_
  refine wlVal (opLeq rfl rfl) rfl ?_
  refine wlThen ?_
  cases h1 : decide (m ≤ 0)
  · skip
    refine wcCondF rfl ?_
    refine wcSkip ?_
    refine wcOf ?_
    refine wcSeq ?_
    refine wcRegion ?_
    refine wlVal (opMove rfl) rfl ?_
    refine wlVal (opMove rfl) rfl ?_
    refine wlVal (opRem rfl rfl (by have := of_decide_eq_false h1; omega)) rfl ?_
    refine wlVal (opAssign rfl) rfl ?_
    refine wlThen ?_
    refine wcSeq ?_
    refine wcSeq ?_
    refine wcRegion ?_
    refine wlVal (opMove rfl) rfl ?_
    refine wlVal (opLss rfl rfl) rfl ?_
    refine wlThen ?_
    cases h2 : decide ((Int.tmod n m) < 0)
    · skip
      refine wcCondF rfl ?_
      refine wcSkip ?_
      refine wcOf ?_
      refine wcSeq ?_
      refine wcRegion ?_
      refine wlVal (opMove rfl) rfl ?_
      refine wlVal (opAssign rfl) rfl ?_
      refine wlThen ?_
      refine wcRet ?_
      exact fun ac_ ha => hQ _ _ _ (results1 ha rfl rfl) ha.df (endS hC hw (by simp only [bringI, h1, h2, cond_true, cond_false]))
    · skip
      refine wcCondT rfl ?_
      refine wcRegion ?_
      refine wlVal (opMove rfl) rfl ?_
      refine wlVal (opMove rfl) rfl ?_
      refine wlVal (opAdd rfl rfl) rfl ?_
      refine wlVal (opAssign rfl) rfl ?_
      refine wlThen ?_
      refine wcSeq ?_
      refine wcRegion ?_
      refine wlVal (opMove rfl) rfl ?_
      refine wlVal (opAssign rfl) rfl ?_
      refine wlThen ?_
      refine wcRet ?_
      exact fun ac_ ha => hQ _ _ _ (results1 ha rfl rfl) ha.df (endS hC hw (by simp only [bringI, h1, h2, cond_true, cond_false]))
  · skip
    refine wcCondT rfl ?_
    refine wcSeq ?_
    refine wcRegion ?_
    refine wlVal (opAssign rfl) rfl ?_
    refine wlThen ?_
    refine wcRet ?_
    exact fun ac_ ha => hQ _ _ _ (results1 ha rfl rfl) ha.df (endS hC hw (by simp only [bringI, h1, cond_true, cond_false]))

theorem crewOf1_ret (G0 : Gh) (w0 : World) (hw : Holds G0 w0)  :
    RetG Tryd.prog 23 #[.int .i64 1] G0 w0 (fun G v => ∃ c0, v = (.agg c0.toArray) ∧ Rp.Is G c0 ((crewI 1))) := by
  have hC := Cx.refl hw
  have hB : Bxs G0 w0 w0.heap.size [] := Bxs.nil _ _ _
  refine callsOf Tryd.func23 rfl _ Tryd.ntmps23 rfl _ (argsCons argsNil (t := 0) rfl) ?_; intro Q0 hQ
  refine wcSeq ?_
  refine wcRegion ?_
  refine wlAlloc hC hB zero53 rfl ?_; intro b1 w hk hC hB
  refine wlThen ?_
  refine wcSeq ?_
  refine wcRegion ?_
  refine wlVal (opMove rfl) rfl ?_
  refine wlVal (opBuild (ps := [(0, .tmp 5)]) (cs := [(.int .i64 1), (.slice none 0 0)]) so53 zero53 rfl rfl (by first | (simp [buildCells, Value.cells]; done) | simp [buildCells, Value.cells, Word.cells, Stand.cells, Wd.cells, Mark.cells])) rfl ?_
  refine wlAlloc hC hB zero53 rfl ?_; intro b2 w hk hC hB
  refine wlStore 0 (vs := [(.int .i64 1), (.slice none 0 0)]) (cs := [(.int .i64 0), (.slice none 0 0)]) (cs' := [(.int .i64 1), (.slice none 0 0)]) hC hB rfl rfl rfl sz53 rfl rfl rfl (by simp [Word.cells, Stand.cells, Wd.cells, Mark.cells]) rfl rfl ?_; intro w hC hB
  refine wlThen ?_
  refine wcSeq ?_
  refine wcSeq ?_
  refine wcRegion ?_
  refine wlVal (opAssign rfl) rfl ?_
  refine wlThen ?_
  refine wcBlock ?_
  refine wcLoop 5 ?_
  refine wrSucc ?_
  refine wcSeq ?_
  refine wcSeq ?_
  refine wcRegion ?_
  refine wlVal (opMove rfl) rfl ?_
  refine wlVal (opMove rfl) rfl ?_
  refine wlVal (OpVal.cast (v' := .int .i64 3) (opMul rfl rfl) (congrArg (Value.int .i64) (by decide))) rfl ?_
  refine wlVal (OpVal.cast (v' := .int .i64 4) (opAdd rfl rfl) (congrArg (Value.int .i64) (by decide))) rfl ?_
  refine wlVal (opLeq rfl rfl) rfl ?_
  refine wlThen ?_
  refine wcCondT rfl ?_
  refine wcSkip ?_
  refine wcOf ?_
  refine wcSeq ?_
  refine wcBlock ?_
  refine wcRegion ?_
  refine wlVal (opFieldAddr rfl fo53_1) rfl ?_
  refine wlVal (opLoadOne (v := (.slice none 0 0)) rfl (hB.cell (i := 0) rfl rfl) one51) rfl ?_
  refine wlVal (opMove rfl) rfl ?_
  refine wlBuildSlice (α := Int) (ps := [(0, .tmp 16)]) (xs := [1]) (rows := [[(.int .i64 1)]]) elo51 rfl rfl hC hB rfl rfl rfl ⟨rfl, trivial⟩ rfl ?_; intro b3 G w hk hC hB hs4
  refine wlAppend (α := Int) (bl := [(b2, 53, [(.int .i64 1), (.slice none 0 0)]), (b1, 53, [(.int .i64 0), (.slice none 0 0)])]) (o := none) (r := []) elo51 hC hB rfl rfl (Ow.nil_ _ 3) hs4 (by simp) rfl rfl ?_; intro A5 cap6 o7 w hC hB hO8
  refine wlVal (opFieldAddr rfl fo53_1) rfl ?_
  refine wlStore 0 (vs := [(.slice A5 ((([] ++ [1])).length) cap6)]) (cs := [(.int .i64 1), (.slice none 0 0)]) (cs' := [(.int .i64 1), (.slice A5 ((([] ++ [1])).length) cap6)]) hC hB rfl rfl rfl sz51 rfl rfl rfl (by simp [Word.cells, Stand.cells, Wd.cells, Mark.cells]) rfl rfl ?_; intro w hC hB
  replace hB : Bxs G w w0.heap.size ([(b2, 53, [(.int .i64 1), (.slice A5 ((([] ++ [1])).length) cap6)]), (b1, 53, [(.int .i64 0), (.slice none 0 0)])] ++ (Option.toList o7 ++ [])) := hB
  refine wlNil ?_
  refine wcOf ?_
  refine wcRegion ?_
  refine wlVal (opMove rfl) rfl ?_
  refine wlVal (OpVal.cast (v' := .int .i64 2) (opAdd rfl rfl) (congrArg (Value.int .i64) (by decide))) rfl ?_
  refine wlVal (opAssign rfl) rfl ?_
  refine wlRound ?_
  refine wrSucc ?_
  refine wcSeq ?_
  refine wcSeq ?_
  refine wcRegion ?_
  refine wlVal (opMove rfl) rfl ?_
  refine wlVal (opMove rfl) rfl ?_
  refine wlVal (OpVal.cast (v' := .int .i64 3) (opMul rfl rfl) (congrArg (Value.int .i64) (by decide))) rfl ?_
  refine wlVal (OpVal.cast (v' := .int .i64 4) (opAdd rfl rfl) (congrArg (Value.int .i64) (by decide))) rfl ?_
  refine wlVal (opLeq rfl rfl) rfl ?_
  refine wlThen ?_
  refine wcCondT rfl ?_
  refine wcSkip ?_
  refine wcOf ?_
  refine wcSeq ?_
  refine wcBlock ?_
  refine wcRegion ?_
  refine wlVal (opFieldAddr rfl fo53_1) rfl ?_
  refine wlVal (opLoadOne (v := (.slice A5 ((([] ++ [1])).length) cap6)) rfl (hB.cell (i := 0) rfl rfl) one51) rfl ?_
  refine wlVal (opMove rfl) rfl ?_
  refine wlBuildSlice (α := Int) (ps := [(0, .tmp 16)]) (xs := [2]) (rows := [[(.int .i64 2)]]) elo51 rfl rfl hC hB rfl rfl rfl ⟨rfl, trivial⟩ rfl ?_; intro b9 G w hk hC hB hs10
  replace hs4 := hs4.mono hk.gle; replace hO8 := hO8.mono hk.gle
  refine wlAppend (α := Int) (bl := [(b2, 53, [(.int .i64 1), (.slice A5 ((([] ++ [1])).length) cap6)]), (b1, 53, [(.int .i64 0), (.slice none 0 0)])]) (o := o7) (r := []) elo51 hC hB rfl rfl hO8 hs10 (by simp) rfl rfl ?_; intro A11 cap12 o13 w hC hB hO14
  refine wlVal (opFieldAddr rfl fo53_1) rfl ?_
  refine wlStore 0 (vs := [(.slice A11 (((([] ++ [1]) ++ [2])).length) cap12)]) (cs := [(.int .i64 1), (.slice A5 ((([] ++ [1])).length) cap6)]) (cs' := [(.int .i64 1), (.slice A11 (((([] ++ [1]) ++ [2])).length) cap12)]) hC hB rfl rfl rfl sz51 rfl rfl rfl (by simp [Word.cells, Stand.cells, Wd.cells, Mark.cells]) rfl rfl ?_; intro w hC hB
  replace hB : Bxs G w w0.heap.size ([(b2, 53, [(.int .i64 1), (.slice A11 (((([] ++ [1]) ++ [2])).length) cap12)]), (b1, 53, [(.int .i64 0), (.slice none 0 0)])] ++ (Option.toList o13 ++ [])) := hB
  refine wlNil ?_
  refine wcOf ?_
  refine wcRegion ?_
  refine wlVal (opMove rfl) rfl ?_
  refine wlVal (OpVal.cast (v' := .int .i64 3) (opAdd rfl rfl) (congrArg (Value.int .i64) (by decide))) rfl ?_
  refine wlVal (opAssign rfl) rfl ?_
  refine wlRound ?_
  refine wrSucc ?_
  refine wcSeq ?_
  refine wcSeq ?_
  refine wcRegion ?_
  refine wlVal (opMove rfl) rfl ?_
  refine wlVal (opMove rfl) rfl ?_
  refine wlVal (OpVal.cast (v' := .int .i64 3) (opMul rfl rfl) (congrArg (Value.int .i64) (by decide))) rfl ?_
  refine wlVal (OpVal.cast (v' := .int .i64 4) (opAdd rfl rfl) (congrArg (Value.int .i64) (by decide))) rfl ?_
  refine wlVal (opLeq rfl rfl) rfl ?_
  refine wlThen ?_
  refine wcCondT rfl ?_
  refine wcSkip ?_
  refine wcOf ?_
  refine wcSeq ?_
  refine wcBlock ?_
  refine wcRegion ?_
  refine wlVal (opFieldAddr rfl fo53_1) rfl ?_
  refine wlVal (opLoadOne (v := (.slice A11 (((([] ++ [1]) ++ [2])).length) cap12)) rfl (hB.cell (i := 0) rfl rfl) one51) rfl ?_
  refine wlVal (opMove rfl) rfl ?_
  refine wlBuildSlice (α := Int) (ps := [(0, .tmp 16)]) (xs := [3]) (rows := [[(.int .i64 3)]]) elo51 rfl rfl hC hB rfl rfl rfl ⟨rfl, trivial⟩ rfl ?_; intro b15 G w hk hC hB hs16
  replace hs4 := hs4.mono hk.gle; replace hs10 := hs10.mono hk.gle; replace hO14 := hO14.mono hk.gle
  refine wlAppend (α := Int) (bl := [(b2, 53, [(.int .i64 1), (.slice A11 (((([] ++ [1]) ++ [2])).length) cap12)]), (b1, 53, [(.int .i64 0), (.slice none 0 0)])]) (o := o13) (r := []) elo51 hC hB rfl rfl hO14 hs16 (by simp) rfl rfl ?_; intro A17 cap18 o19 w hC hB hO20
  refine wlVal (opFieldAddr rfl fo53_1) rfl ?_
  refine wlStore 0 (vs := [(.slice A17 ((((([] ++ [1]) ++ [2]) ++ [3])).length) cap18)]) (cs := [(.int .i64 1), (.slice A11 (((([] ++ [1]) ++ [2])).length) cap12)]) (cs' := [(.int .i64 1), (.slice A17 ((((([] ++ [1]) ++ [2]) ++ [3])).length) cap18)]) hC hB rfl rfl rfl sz51 rfl rfl rfl (by simp [Word.cells, Stand.cells, Wd.cells, Mark.cells]) rfl rfl ?_; intro w hC hB
  replace hB : Bxs G w w0.heap.size ([(b2, 53, [(.int .i64 1), (.slice A17 ((((([] ++ [1]) ++ [2]) ++ [3])).length) cap18)]), (b1, 53, [(.int .i64 0), (.slice none 0 0)])] ++ (Option.toList o19 ++ [])) := hB
  refine wlNil ?_
  refine wcOf ?_
  refine wcRegion ?_
  refine wlVal (opMove rfl) rfl ?_
  refine wlVal (OpVal.cast (v' := .int .i64 4) (opAdd rfl rfl) (congrArg (Value.int .i64) (by decide))) rfl ?_
  refine wlVal (opAssign rfl) rfl ?_
  refine wlRound ?_
  refine wrSucc ?_
  refine wcSeq ?_
  refine wcSeq ?_
  refine wcRegion ?_
  refine wlVal (opMove rfl) rfl ?_
  refine wlVal (opMove rfl) rfl ?_
  refine wlVal (OpVal.cast (v' := .int .i64 3) (opMul rfl rfl) (congrArg (Value.int .i64) (by decide))) rfl ?_
  refine wlVal (OpVal.cast (v' := .int .i64 4) (opAdd rfl rfl) (congrArg (Value.int .i64) (by decide))) rfl ?_
  refine wlVal (opLeq rfl rfl) rfl ?_
  refine wlThen ?_
  refine wcCondT rfl ?_
  refine wcSkip ?_
  refine wcOf ?_
  refine wcSeq ?_
  refine wcBlock ?_
  refine wcRegion ?_
  refine wlVal (opFieldAddr rfl fo53_1) rfl ?_
  refine wlVal (opLoadOne (v := (.slice A17 ((((([] ++ [1]) ++ [2]) ++ [3])).length) cap18)) rfl (hB.cell (i := 0) rfl rfl) one51) rfl ?_
  refine wlVal (opMove rfl) rfl ?_
  refine wlBuildSlice (α := Int) (ps := [(0, .tmp 16)]) (xs := [4]) (rows := [[(.int .i64 4)]]) elo51 rfl rfl hC hB rfl rfl rfl ⟨rfl, trivial⟩ rfl ?_; intro b21 G w hk hC hB hs22
  replace hs4 := hs4.mono hk.gle; replace hs10 := hs10.mono hk.gle; replace hs16 := hs16.mono hk.gle; replace hO20 := hO20.mono hk.gle
  refine wlAppend (α := Int) (bl := [(b2, 53, [(.int .i64 1), (.slice A17 ((((([] ++ [1]) ++ [2]) ++ [3])).length) cap18)]), (b1, 53, [(.int .i64 0), (.slice none 0 0)])]) (o := o19) (r := []) elo51 hC hB rfl rfl hO20 hs22 (by simp) rfl rfl ?_; intro A23 cap24 o25 w hC hB hO26
  refine wlVal (opFieldAddr rfl fo53_1) rfl ?_
  refine wlStore 0 (vs := [(.slice A23 (((((([] ++ [1]) ++ [2]) ++ [3]) ++ [4])).length) cap24)]) (cs := [(.int .i64 1), (.slice A17 ((((([] ++ [1]) ++ [2]) ++ [3])).length) cap18)]) (cs' := [(.int .i64 1), (.slice A23 (((((([] ++ [1]) ++ [2]) ++ [3]) ++ [4])).length) cap24)]) hC hB rfl rfl rfl sz51 rfl rfl rfl (by simp [Word.cells, Stand.cells, Wd.cells, Mark.cells]) rfl rfl ?_; intro w hC hB
  replace hB : Bxs G w w0.heap.size ([(b2, 53, [(.int .i64 1), (.slice A23 (((((([] ++ [1]) ++ [2]) ++ [3]) ++ [4])).length) cap24)]), (b1, 53, [(.int .i64 0), (.slice none 0 0)])] ++ (Option.toList o25 ++ [])) := hB
  refine wlNil ?_
  refine wcOf ?_
  refine wcRegion ?_
  refine wlVal (opMove rfl) rfl ?_
  refine wlVal (OpVal.cast (v' := .int .i64 5) (opAdd rfl rfl) (congrArg (Value.int .i64) (by decide))) rfl ?_
  refine wlVal (opAssign rfl) rfl ?_
  refine wlRound ?_
  refine wrSucc ?_
  refine wcSeq ?_
  refine wcSeq ?_
  refine wcRegion ?_
  refine wlVal (opMove rfl) rfl ?_
  refine wlVal (opMove rfl) rfl ?_
  refine wlVal (OpVal.cast (v' := .int .i64 3) (opMul rfl rfl) (congrArg (Value.int .i64) (by decide))) rfl ?_
  refine wlVal (OpVal.cast (v' := .int .i64 4) (opAdd rfl rfl) (congrArg (Value.int .i64) (by decide))) rfl ?_
  refine wlVal (opLeq rfl rfl) rfl ?_
  refine wlThen ?_
  refine wcCondF rfl ?_
  refine wcExit ?_
  refine wcOf ?_
  refine wcSeq ?_
  refine wcRegion ?_
  refine wlVal (opLoadRow (cs := [(.int .i64 1), (.slice A23 (((((([] ++ [1]) ++ [2]) ++ [3]) ++ [4])).length) cap24)]) rfl (hB.range (i := 0) (m := 2) rfl rfl) row53 rfl) rfl ?_
  refine wlStore 1 (vs := [(.int .i64 1), (.slice A23 (((((([] ++ [1]) ++ [2]) ++ [3]) ++ [4])).length) cap24)]) (cs := [(.int .i64 0), (.slice none 0 0)]) (cs' := [(.int .i64 1), (.slice A23 (((((([] ++ [1]) ++ [2]) ++ [3]) ++ [4])).length) cap24)]) hC hB rfl rfl rfl sz53 rfl rfl rfl (by simp [Word.cells, Stand.cells, Wd.cells, Mark.cells]) rfl rfl ?_; intro w hC hB
  replace hB : Bxs G w w0.heap.size ([(b2, 53, [(.int .i64 1), (.slice A23 (((((([] ++ [1]) ++ [2]) ++ [3]) ++ [4])).length) cap24)]), (b1, 53, [(.int .i64 1), (.slice A23 (((((([] ++ [1]) ++ [2]) ++ [3]) ++ [4])).length) cap24)])] ++ (Option.toList o25 ++ [])) := hB
  refine wlThen ?_
  refine wcRet ?_
  obtain ⟨G, hg28, hC, hB, hs27⟩ := Ow.freeze' (bl := [(b2, 53, [(.int .i64 1), (.slice A23 (((((([] ++ [1]) ++ [2]) ++ [3]) ++ [4])).length) cap24)]), (b1, 53, [(.int .i64 1), (.slice A23 (((((([] ++ [1]) ++ [2]) ++ [3]) ++ [4])).length) cap24)])]) (r := []) hO26 hC (Nat.le_refl _) hB (by simp [maxL])
  replace hs4 := hs4.mono hg28; replace hs10 := hs10.mono hg28; replace hs16 := hs16.mono hg28; replace hs22 := hs22.mono hg28
  exact fun ac_ ha => hQ _ _ _ (results1 ha rfl ⟨_, _, [(.int .i64 1), (.slice A23 (((((([] ++ [1]) ++ [2]) ++ [3]) ++ [4])).length) cap24)], rfl, row53, rfl, hB.range (i := 1) (m := 2) rfl rfl, rfl⟩) ha.df (endG hC ⟨_, rfl, (Crew.mkIs (x := (Crew.mk 1 ((((([] ++ [1]) ++ [2]) ++ [3]) ++ [4])))) hs27)⟩)

theorem viewMay_ret (G0 : Gh) (w0 : World) (hw : Holds G0 w0) (v : Int) :
    RetS Tryd.prog 33 #[.int .i64 v] G0 w0 (.bool (viewB v)) := by
  have hC := Cx.refl hw
  have hB : Bxs G0 w0 w0.heap.size [] := Bxs.nil _ _ _
  refine callsOf Tryd.func33 rfl _ Tryd.ntmps33 rfl _ (argsCons argsNil (t := 0) rfl) ?_; intro Q0 hQ
  refine wcSeq ?_
  refine wcRegion ?_
  refine wlVal (opAssign rfl) rfl ?_
  refine wlThen ?_
  refine wcSeq ?_
  refine wcRegion ?_
  refine wlVal (opMove rfl) rfl ?_
  refine wlVal (opLeq rfl rfl) rfl ?_
  refine wlVal (opMove rfl) rfl ?_
  cases h1 : decide (0 ≤ v)
  · skip
    refine wlOff rfl rfl rfl rfl ?_
    refine wlOff rfl rfl rfl rfl ?_
    refine wlVal (opPickF rfl rfl) rfl ?_
    refine wlVal (opAssign rfl) rfl ?_
    refine wlThen ?_
    refine wcRet ?_
    exact fun ac_ ha => hQ _ _ _ (results1 ha rfl rfl) ha.df (endS hC hw (by simp [viewB, h1]))
  · skip
    refine wlOn rfl rfl ?_
    refine wlVal (opMove rfl) rfl ?_
    refine wlOn rfl rfl ?_
    refine wlVal (opLeq rfl rfl) rfl ?_
    refine wlVal (opPickT rfl rfl) rfl ?_
    refine wlVal (opAssign rfl) rfl ?_
    refine wlThen ?_
    refine wcRet ?_
    exact fun ac_ ha => hQ _ _ _ (results1 ha rfl rfl) ha.df (endS hC hw (by simp [viewB, h1]))

theorem lowMay_ret (G0 : Gh) (w0 : World) (hw : Holds G0 w0) (v : Int) :
    RetS Tryd.prog 44 #[.int .i64 v] G0 w0 (.bool (lowB v)) := by
  have hC := Cx.refl hw
  have hB : Bxs G0 w0 w0.heap.size [] := Bxs.nil _ _ _
  refine callsOf Tryd.func44 rfl _ Tryd.ntmps44 rfl _ (argsCons argsNil (t := 0) rfl) ?_; intro Q0 hQ
  refine wcSeq ?_
  refine wcRegion ?_
  refine wlVal (opAssign rfl) rfl ?_
  refine wlThen ?_
  refine wcSeq ?_
  refine wcRegion ?_
  refine wlVal (opMove rfl) rfl ?_
  refine wlVal (opLeq rfl rfl) rfl ?_
  refine wlVal (opMove rfl) rfl ?_
  cases h1 : decide (0 ≤ v)
  · skip
    refine wlOff rfl rfl rfl rfl ?_
    refine wlOff rfl rfl rfl rfl ?_
    refine wlVal (opPickF rfl rfl) rfl ?_
    refine wlVal (opAssign rfl) rfl ?_
    refine wlThen ?_
    refine wcRet ?_
    exact fun ac_ ha => hQ _ _ _ (results1 ha rfl rfl) ha.df (endS hC hw (by simp [lowB, h1]))
  · skip
    refine wlOn rfl rfl ?_
    refine wlVal (opMove rfl) rfl ?_
    refine wlOn rfl rfl ?_
    refine wlVal (opLeq rfl rfl) rfl ?_
    refine wlVal (opPickT rfl rfl) rfl ?_
    refine wlVal (opAssign rfl) rfl ?_
    refine wlThen ?_
    refine wcRet ?_
    exact fun ac_ ha => hQ _ _ _ (results1 ha rfl rfl) ha.df (endS hC hw (by simp [lowB, h1]))

theorem digest_ret (G0 : Gh) (w0 : World) (hw : Holds G0 w0) (b : UInt8) :
    RetS Tryd.prog 17 #[.int .u8 (b.toNat : Int)] G0 w0 (.agg ((digN b)).cells.toArray) := by
  have hC := Cx.refl hw
  have hB : Bxs G0 w0 w0.heap.size [] := Bxs.nil _ _ _
  refine callsOf Tryd.func17 rfl _ Tryd.ntmps17 rfl _ (argsCons argsNil (t := 0) rfl) ?_; intro Q0 hQ
  refine wcSeq ?_
  refine wcRegion ?_
  refine wlAlloc hC hB zero38 rfl ?_; intro b1 w hk hC hB
  refine wlThen ?_
  refine wcSeq ?_
  refine wcRegion ?_
  refine wlVal (opMove rfl) rfl ?_
  refine wlVal (opBuildArr (ps := [(0, .tmp 3), (1, .const (.int .u8 1))]) (cs := ((digN b)).cells) ar38 zero38 rfl rfl (by first | rfl | simp [buildA, Value.cells])) rfl ?_
  refine wlStore 0 (vs := ((digN b)).cells) (cs := Dig.zero.cells) (cs' := ((digN b)).cells) hC hB rfl rfl rfl sz38 rfl (by simp [Word.cells, Stand.cells, Wd.cells, Mark.cells]) (by simp [Word.cells, Stand.cells, Wd.cells, Mark.cells, Value.oneCell']) (by simp [Word.cells, Stand.cells, Wd.cells, Mark.cells]) (by simp [Word.cells, Stand.cells, Wd.cells, Mark.cells]) rfl ?_; intro w hC hB
  refine wlThen ?_
  refine wcRet ?_
  exact fun ac_ ha => hQ _ _ _ (results1 ha rfl ⟨_, _, ((digN b)).cells, rfl, row38, (by simp [Word.cells, Stand.cells, Wd.cells, Mark.cells]), hB.range (i := 0) (m := 32) rfl (by simp [Word.cells, Stand.cells, Wd.cells, Mark.cells]), rfl⟩) ha.df (endS hC hw rfl)

theorem order_ret (G0 : Gh) (w0 : World) (hw : Holds G0 w0) (a : Stand) (b : Stand) :
    RetS Tryd.prog 38 #[.agg a.cells.toArray, .agg b.cells.toArray] G0 w0 (.int .i64 ((ordS a b))) := by
  have hC := Cx.refl hw
  have hB : Bxs G0 w0 w0.heap.size [] := Bxs.nil _ _ _
  refine callsOf Tryd.func38 rfl _ Tryd.ntmps38 rfl _ (argsCons (argsCons argsNil (t := 0) rfl) (t := 1) rfl) ?_; intro Q0 hQ
  refine wcSeq ?_
  refine wcRegion ?_
  refine wlBox (cs := a.cells) hC hB rfl rfl rfl ?_; intro b1 w hk hC hB
  refine wlBox (cs := b.cells) hC hB rfl rfl rfl ?_; intro b2 w hk hC hB
  refine wlVal (opAssign rfl) rfl ?_
  refine wlThen ?_
  refine wcSeq ?_
  refine wcDraw fmix (by kernel_rfl) (by kernel_rfl) (vAt [(fun _ v_ => v_ = (.pointer (some ⟨b1, 0, none⟩))), (fun _ v_ => v_ = (.int .i64 a.seq)), (fun _ v_ => v_ = (.pointer (some ⟨b2, 0, none⟩))), (fun _ v_ => v_ = (.int .i64 b.seq)), (fun _ v_ => v_ = (.int .i64 ((cmpI a.seq b.seq)))), (fun _ v_ => v_ = (.pointer (some ⟨b1, 33, none⟩))), (fun _ v_ => v_ = (.int .i64 a.view)), (fun _ v_ => v_ = (.pointer (some ⟨b2, 33, none⟩))), (fun _ v_ => v_ = (.int .i64 b.view)), (fun _ v_ => v_ = (.int .i64 ((cmpI a.view b.view)))), (fun _ v_ => v_ = (.pointer (some ⟨b1, 1, none⟩))), (fun _ v_ => v_ = (.slice (some ⟨b1, 1, none⟩) 32 32)), (fun _ v_ => v_ = (.pointer (some ⟨b2, 1, none⟩))), (fun _ v_ => v_ = (.slice (some ⟨b2, 1, none⟩) 32 32)), (fun _ v_ => v_ = (.int .i64 ((cmpB a.dig.l b.dig.l)))), (fun G v => ∃ bb_, v = .slice (some ⟨bb_, 0, none⟩) 3 3 ∧ Sl G v ([(cmpI a.seq b.seq), (cmpI a.view b.view), (cmpB a.dig.l b.dig.l)] : List Int)), (fun _ v_ => v_ = (.int .i64 ((orI ([(cmpI a.seq b.seq), (cmpI a.view b.view), (cmpB a.dig.l b.dig.l)]))))), (fun _ v_ => v_ = (.int .i64 ((orI ([(cmpI a.seq b.seq), (cmpI a.view b.view), (cmpB a.dig.l b.dig.l)])))))]) (fun _ _ G' w => Cx w0 G0 G' w ∧ Bxs G' w w0.heap.size [(b2, 43, b.cells), (b1, 43, a.cells)] ∧ GLe G0 G') G0 (vAt_mono ⟨fun _ _ _ _ h => h, fun _ _ _ _ h => h, fun _ _ _ _ h => h, fun _ _ _ _ h => h, fun _ _ _ _ h => h, fun _ _ _ _ h => h, fun _ _ _ _ h => h, fun _ _ _ _ h => h, fun _ _ _ _ h => h, fun _ _ _ _ h => h, fun _ _ _ _ h => h, fun _ _ _ _ h => h, fun _ _ _ _ h => h, fun _ _ _ _ h => h, fun _ _ _ _ h => h, fun _ _ _ hg => fun ⟨b, h1, h2⟩ => ⟨b, h1, h2.mono hg⟩, fun _ _ _ _ h => h, fun _ _ _ _ h => h, trivial⟩) (fun _ _ => ⟨hC.drew, hB.drew, fun _ _ h => h⟩) ?_ ?_
  · refine dsNone (j := 1) rfl ?_ ?_
    · intro done G w ac_ hd hp hn ⟨hC, hB, hg⟩ hM
      have f2 : ac_.tmps[2]? = some (.pointer (some ⟨b1, 0, none⟩)) := hM.old0 rfl rfl
      have hF : Fr 22 ac_ (Env.nil.put 2 (.pointer (some ⟨b1, 0, none⟩))) := (hM.fr.add f2)
      exact OpVal.draw hF (opFieldAddr rfl fo43_0) ⟨G, fun _ _ h => h, ⟨hC, hB, hg⟩, rfl⟩
    refine dsNone (j := 2) rfl ?_ ?_
    · intro done G w ac_ hd hp hn ⟨hC, hB, hg⟩ hM
      have f5 : ac_.tmps[5]? = some (.pointer (some ⟨b1, 0, none⟩)) := hM.eqv 0 rfl (hp 0 rfl) rfl rfl
      have hF : Fr 22 ac_ (Env.nil.put 5 (.pointer (some ⟨b1, 0, none⟩))) := (hM.fr.add f5)
      exact OpVal.draw hF (opLoadOne (v := (.int .i64 a.seq)) rfl (hB.cell (i := 1) rfl (by simp [Word.cells, Stand.cells, Wd.cells, Mark.cells])) one3) ⟨G, fun _ _ h => h, ⟨hC, hB, hg⟩, rfl⟩
    refine dsNone (j := 3) rfl ?_ ?_
    · intro done G w ac_ hd hp hn ⟨hC, hB, hg⟩ hM
      have f3 : ac_.tmps[3]? = some (.pointer (some ⟨b2, 0, none⟩)) := hM.old0 rfl rfl
      have hF : Fr 22 ac_ (Env.nil.put 3 (.pointer (some ⟨b2, 0, none⟩))) := (hM.fr.add f3)
      exact OpVal.draw hF (opFieldAddr rfl fo43_0) ⟨G, fun _ _ h => h, ⟨hC, hB, hg⟩, rfl⟩
    refine dsNone (j := 4) rfl ?_ ?_
    · intro done G w ac_ hd hp hn ⟨hC, hB, hg⟩ hM
      have f7 : ac_.tmps[7]? = some (.pointer (some ⟨b2, 0, none⟩)) := hM.eqv 2 rfl (hp 2 rfl) rfl rfl
      have hF : Fr 22 ac_ (Env.nil.put 7 (.pointer (some ⟨b2, 0, none⟩))) := (hM.fr.add f7)
      exact OpVal.draw hF (opLoadOne (v := (.int .i64 b.seq)) rfl (hB.cell (i := 0) rfl (by simp [Word.cells, Stand.cells, Wd.cells, Mark.cells])) one3) ⟨G, fun _ _ h => h, ⟨hC, hB, hg⟩, rfl⟩
    refine dsNone (j := 5) rfl ?_ ?_
    · intro done G w ac_ hd hp hn ⟨hC, hB, hg⟩ hM
      have f6 : ac_.tmps[6]? = some (.int .i64 a.seq) := hM.eqv 1 rfl (hp 1 rfl) rfl rfl
      have f8 : ac_.tmps[8]? = some (.int .i64 b.seq) := hM.eqv 3 rfl (hp 3 rfl) rfl rfl
      have hF : Fr 22 ac_ ((Env.nil.put 6 (.int .i64 a.seq)).put 8 (.int .i64 b.seq)) := ((hM.fr.add f6).add f8)
      exact drawCallS hF rfl co55 rfl (compare_ret _ _ hC.holds a.seq b.seq) (fun w' hk => ⟨G, fun _ _ h => h, ⟨hC.trans hk, hB.ext hk, hg⟩, rfl⟩)
    refine dsNone (j := 6) rfl ?_ ?_
    · intro done G w ac_ hd hp hn ⟨hC, hB, hg⟩ hM
      have f2 : ac_.tmps[2]? = some (.pointer (some ⟨b1, 0, none⟩)) := hM.old0 rfl rfl
      have hF : Fr 22 ac_ (Env.nil.put 2 (.pointer (some ⟨b1, 0, none⟩))) := (hM.fr.add f2)
      exact OpVal.draw hF (opFieldAddr rfl fo43_2) ⟨G, fun _ _ h => h, ⟨hC, hB, hg⟩, rfl⟩
    refine dsNone (j := 7) rfl ?_ ?_
    · intro done G w ac_ hd hp hn ⟨hC, hB, hg⟩ hM
      have f10 : ac_.tmps[10]? = some (.pointer (some ⟨b1, 33, none⟩)) := hM.eqv 5 rfl (hp 5 rfl) rfl rfl
      have hF : Fr 22 ac_ (Env.nil.put 10 (.pointer (some ⟨b1, 33, none⟩))) := (hM.fr.add f10)
      exact OpVal.draw hF (opLoadOne (v := (.int .i64 a.view)) rfl (hB.cell (i := 1) rfl (by simp [Word.cells, Stand.cells, Wd.cells, Mark.cells])) one3) ⟨G, fun _ _ h => h, ⟨hC, hB, hg⟩, rfl⟩
    refine dsNone (j := 8) rfl ?_ ?_
    · intro done G w ac_ hd hp hn ⟨hC, hB, hg⟩ hM
      have f3 : ac_.tmps[3]? = some (.pointer (some ⟨b2, 0, none⟩)) := hM.old0 rfl rfl
      have hF : Fr 22 ac_ (Env.nil.put 3 (.pointer (some ⟨b2, 0, none⟩))) := (hM.fr.add f3)
      exact OpVal.draw hF (opFieldAddr rfl fo43_2) ⟨G, fun _ _ h => h, ⟨hC, hB, hg⟩, rfl⟩
    refine dsNone (j := 9) rfl ?_ ?_
    · intro done G w ac_ hd hp hn ⟨hC, hB, hg⟩ hM
      have f12 : ac_.tmps[12]? = some (.pointer (some ⟨b2, 33, none⟩)) := hM.eqv 7 rfl (hp 7 rfl) rfl rfl
      have hF : Fr 22 ac_ (Env.nil.put 12 (.pointer (some ⟨b2, 33, none⟩))) := (hM.fr.add f12)
      exact OpVal.draw hF (opLoadOne (v := (.int .i64 b.view)) rfl (hB.cell (i := 0) rfl (by simp [Word.cells, Stand.cells, Wd.cells, Mark.cells])) one3) ⟨G, fun _ _ h => h, ⟨hC, hB, hg⟩, rfl⟩
    refine dsNone (j := 10) rfl ?_ ?_
    · intro done G w ac_ hd hp hn ⟨hC, hB, hg⟩ hM
      have f11 : ac_.tmps[11]? = some (.int .i64 a.view) := hM.eqv 6 rfl (hp 6 rfl) rfl rfl
      have f13 : ac_.tmps[13]? = some (.int .i64 b.view) := hM.eqv 8 rfl (hp 8 rfl) rfl rfl
      have hF : Fr 22 ac_ ((Env.nil.put 11 (.int .i64 a.view)).put 13 (.int .i64 b.view)) := ((hM.fr.add f11).add f13)
      exact drawCallS hF rfl co55 rfl (compare_ret _ _ hC.holds a.view b.view) (fun w' hk => ⟨G, fun _ _ h => h, ⟨hC.trans hk, hB.ext hk, hg⟩, rfl⟩)
    refine dsNone (j := 11) rfl ?_ ?_
    · intro done G w ac_ hd hp hn ⟨hC, hB, hg⟩ hM
      have f2 : ac_.tmps[2]? = some (.pointer (some ⟨b1, 0, none⟩)) := hM.old0 rfl rfl
      have hF : Fr 22 ac_ (Env.nil.put 2 (.pointer (some ⟨b1, 0, none⟩))) := (hM.fr.add f2)
      exact OpVal.draw hF (opFieldAddr rfl fo43_1) ⟨G, fun _ _ h => h, ⟨hC, hB, hg⟩, rfl⟩
    refine dsNone (j := 12) rfl ?_ ?_
    · intro done G w ac_ hd hp hn ⟨hC, hB, hg⟩ hM
      have f15 : ac_.tmps[15]? = some (.pointer (some ⟨b1, 1, none⟩)) := hM.eqv 10 rfl (hp 10 rfl) rfl rfl
      have hF : Fr 22 ac_ (Env.nil.put 15 (.pointer (some ⟨b1, 1, none⟩))) := (hM.fr.add f15)
      exact OpVal.draw hF (opSliceArrO by38 rfl) ⟨G, fun _ _ h => h, ⟨hC, hB, hg⟩, rfl⟩
    refine dsNone (j := 13) rfl ?_ ?_
    · intro done G w ac_ hd hp hn ⟨hC, hB, hg⟩ hM
      have f3 : ac_.tmps[3]? = some (.pointer (some ⟨b2, 0, none⟩)) := hM.old0 rfl rfl
      have hF : Fr 22 ac_ (Env.nil.put 3 (.pointer (some ⟨b2, 0, none⟩))) := (hM.fr.add f3)
      exact OpVal.draw hF (opFieldAddr rfl fo43_1) ⟨G, fun _ _ h => h, ⟨hC, hB, hg⟩, rfl⟩
    refine dsNone (j := 14) rfl ?_ ?_
    · intro done G w ac_ hd hp hn ⟨hC, hB, hg⟩ hM
      have f17 : ac_.tmps[17]? = some (.pointer (some ⟨b2, 1, none⟩)) := hM.eqv 12 rfl (hp 12 rfl) rfl rfl
      have hF : Fr 22 ac_ (Env.nil.put 17 (.pointer (some ⟨b2, 1, none⟩))) := (hM.fr.add f17)
      exact OpVal.draw hF (opSliceArrO by38 rfl) ⟨G, fun _ _ h => h, ⟨hC, hB, hg⟩, rfl⟩
    refine dsNone (j := 15) rfl ?_ ?_
    · intro done G w ac_ hd hp hn ⟨hC, hB, hg⟩ hM
      have f16 : ac_.tmps[16]? = some (.slice (some ⟨b1, 1, none⟩) 32 32) := hM.eqv 11 rfl (hp 11 rfl) rfl rfl
      have f18 : ac_.tmps[18]? = some (.slice (some ⟨b2, 1, none⟩) 32 32) := hM.eqv 13 rfl (hp 13 rfl) rfl rfl
      have hF : Fr 22 ac_ ((Env.nil.put 16 (.slice (some ⟨b1, 1, none⟩) 32 32)).put 18 (.slice (some ⟨b2, 1, none⟩) 32 32)) := ((hM.fr.add f16).add f18)
      exact drawCallS hF rfl co56 rfl (RetS.lendB hC.holds hB (fun G_ hg_ hh_ hL_ => bcmp_ret _ _ hh_ _ a.dig.l (Sl.ofDig' (o := 1) (by simpa using RowG.part (i := 1) (m := 32) (HasO.row (hL_ (b1, 43, a.cells) (by simp))) (by simp [Word.cells, Stand.cells, Wd.cells, Mark.cells]))) _ b.dig.l (Sl.ofDig' (o := 1) (by simpa using RowG.part (i := 1) (m := 32) (HasO.row (hL_ (b2, 43, b.cells) (by simp))) (by simp [Word.cells, Stand.cells, Wd.cells, Mark.cells]))))) (fun w' hk => ⟨G, fun _ _ h => h, ⟨hC.trans hk, hB.ext hk, hg⟩, rfl⟩)
    refine dsNone (j := 16) rfl ?_ ?_
    · intro done G w ac_ hd hp hn ⟨hC, hB, hg⟩ hM
      have f9 : ac_.tmps[9]? = some (.int .i64 ((cmpI a.seq b.seq))) := hM.eqv 4 rfl (hp 4 rfl) rfl rfl
      have f14 : ac_.tmps[14]? = some (.int .i64 ((cmpI a.view b.view))) := hM.eqv 9 rfl (hp 9 rfl) rfl rfl
      have f19 : ac_.tmps[19]? = some (.int .i64 ((cmpB a.dig.l b.dig.l))) := hM.eqv 14 rfl (hp 14 rfl) rfl rfl
      have hF : Fr 22 ac_ (((Env.nil.put 9 (.int .i64 ((cmpI a.seq b.seq)))).put 14 (.int .i64 ((cmpI a.view b.view)))).put 19 (.int .i64 ((cmpB a.dig.l b.dig.l)))) := (((hM.fr.add f9).add f14).add f19)
      exact drawBsl hF (α := Int) (ps := [(0, .tmp 9), (1, .tmp 14), (2, .tmp 19)]) (xs := [(cmpI a.seq b.seq), (cmpI a.view b.view), (cmpB a.dig.l b.dig.l)]) (rows := [[(.int .i64 ((cmpI a.seq b.seq)))], [(.int .i64 ((cmpI a.view b.view)))], [(.int .i64 ((cmpB a.dig.l b.dig.l)))]]) elo51 rfl rfl hC.holds rfl rfl rfl ⟨rfl, rfl, rfl, trivial⟩ (fun b G' w' hk hr => ⟨G', hk.gle, ⟨hC.trans hk, hB.ext hk, fun b o h => hk.gle b o (hg b o h)⟩, ⟨b, rfl, hr⟩⟩)
    refine dsNone (j := 17) rfl ?_ ?_
    · intro done G w ac_ hd hp hn ⟨hC, hB, hg⟩ hM
      obtain ⟨v_, f20, ⟨b3, rfl, hs4⟩⟩ := hM.new 15 _ _ rfl (hp 15 rfl) rfl
      have hF : Fr 22 ac_ (Env.nil.put 20 (.slice (some ⟨b3, 0, none⟩) 3 3)) := (hM.fr.add f20)
      exact drawCallS hF rfl co54 rfl (or_ret _ _ hC.holds _ ([(cmpI a.seq b.seq), (cmpI a.view b.view), (cmpB a.dig.l b.dig.l)]) hs4) (fun w' hk => ⟨G, fun _ _ h => h, ⟨hC.trans hk, hB.ext hk, hg⟩, rfl⟩)
    refine dsNone (j := 18) rfl ?_ ?_
    · intro done G w ac_ hd hp hn ⟨hC, hB, hg⟩ hM
      have f21 : ac_.tmps[21]? = some (.int .i64 ((orI ([(cmpI a.seq b.seq), (cmpI a.view b.view), (cmpB a.dig.l b.dig.l)])))) := hM.eqv 16 rfl (hp 16 rfl) rfl rfl
      have hF : Fr 22 ac_ (Env.nil.put 21 (.int .i64 ((orI ([(cmpI a.seq b.seq), (cmpI a.view b.view), (cmpB a.dig.l b.dig.l)]))))) := (hM.fr.add f21)
      exact OpVal.draw hF (opAssign rfl) ⟨G, fun _ _ h => h, ⟨hC, hB, hg⟩, rfl⟩
    exact dsNil
  · intro done G w ac_ hall ⟨hC, hB, hg⟩ hM
    have f4 : ac_.tmps[4]? = some (.int .i64 ((orI ([(cmpI a.seq b.seq), (cmpI a.view b.view), (cmpB a.dig.l b.dig.l)])))) := hM.eqv 17 rfl (hall 17 (by decide)) rfl rfl
    refine ⟨(Env.nil.put 4 (.int .i64 ((orI ([(cmpI a.seq b.seq), (cmpI a.view b.view), (cmpB a.dig.l b.dig.l)]))))), (hM.fr.add f4), ?_⟩
    clear hM hall
    refine wcOf ?_
    refine wcRet ?_
    exact fun ac_ ha => hQ _ _ _ (results1 ha rfl rfl) ha.df (endS hC hw rfl)

theorem len64_ret (G0 : Gh) (w0 : World) (hw : Holds G0 w0) (x : Nat) (hx : x ≤ 12) :
    RetS Tryd.prog 69 #[.int .u64 ((x : Nat) : Int)] G0 w0 (.int .i64 (((len8 x : Nat) : Int))) := by
  have hC := Cx.refl hw
  have hB : Bxs G0 w0 w0.heap.size [] := Bxs.nil _ _ _
  refine callsOf Tryd.func69 rfl _ Tryd.ntmps69 rfl _ (argsCons argsNil (t := 0) rfl) ?_; intro Q0 hQ
  refine wcSeq ?_
  refine wcRegion ?_
  refine wlVal (opAssign rfl) rfl ?_
  refine wlThen ?_
  refine wcSeq ?_
  refine wcSeq ?_
  refine wcRegion ?_
  refine wlVal (opMove rfl) rfl ?_
  refine wlVal (opGeq rfl rfl) rfl ?_
  refine wlThen ?_
  cases h1 : decide (4294967296 ≤ ((x : Nat) : Int))
  · skip
    refine wcCondF rfl ?_
    refine wcSkip ?_
    refine wcOf ?_
    refine wcSeq ?_
    refine wcSeq ?_
    refine wcRegion ?_
    refine wlVal (opMove rfl) rfl ?_
    refine wlVal (opGeq rfl rfl) rfl ?_
    refine wlThen ?_
    cases h2 : decide (65536 ≤ ((x : Nat) : Int))
    · skip
      refine wcCondF rfl ?_
      refine wcSkip ?_
      refine wcOf ?_
      refine wcSeq ?_
      refine wcSeq ?_
      refine wcRegion ?_
      refine wlVal (opMove rfl) rfl ?_
      refine wlVal (opGeq rfl rfl) rfl ?_
      refine wlThen ?_
      cases h3 : decide (256 ≤ ((x : Nat) : Int))
      · skip
        refine wcCondF rfl ?_
        refine wcSkip ?_
        refine wcOf ?_
        refine wcSeq ?_
        refine wcRegion ?_
        refine wlVal (opMove rfl) rfl ?_
        refine wlVal (opMove rfl) rfl ?_
        refine wlVal (opConvN rfl un109 ui5 (wrap_u8_nat (by omega))) rfl ?_
        refine wlVal (opIndexStr st9 rfl rfl (len8_at (by kernel_rfl) hx)) rfl ?_
        refine wlVal (opConvN rfl un5 ui3 (wrap_i64_nat (len8_lt x))) rfl ?_
        refine wlVal (opAdd rfl rfl) rfl ?_
        refine wlVal (opAssign rfl) rfl ?_
        refine wlThen ?_
        refine wcRet ?_
        exact fun ac_ ha => hQ _ _ _ (results1 ha rfl rfl) ha.df (endS hC hw (congrArg (Value.int .i64) (len8_fin x)))
      · skip
        exact (by have q := of_decide_eq_true h3; omega : False).elim
    · skip
      exact (by have q := of_decide_eq_true h2; omega : False).elim
  · skip
    exact (by have q := of_decide_eq_true h1; omega : False).elim

theorem len_ret (G0 : Gh) (w0 : World) (hw : Holds G0 w0) (x : Nat) (hx : x ≤ 12) :
    RetS Tryd.prog 53 #[.int .u64 ((x : Nat) : Int)] G0 w0 (.int .i64 (((len8 x : Nat) : Int))) := by
  have hC := Cx.refl hw
  have hB : Bxs G0 w0 w0.heap.size [] := Bxs.nil _ _ _
  refine callsOf Tryd.func53 rfl _ Tryd.ntmps53 rfl _ (argsCons argsNil (t := 0) rfl) ?_; intro Q0 hQ
  refine wcSeq ?_
  refine wcRegion ?_
  refine wlVal (opAssign rfl) rfl ?_
  refine wlThen ?_
  refine wcSeq ?_
  refine wcCondF rfl ?_
  refine wcSkip ?_
  refine wcOf ?_
  refine wcSeq ?_
  refine wcRegion ?_
  refine wlVal (opMove rfl) rfl ?_
  refine wlCallS hC hB rfl co69 rfl rfl (len64_ret _ _ hC.holds x hx) ?_; intro w hk hC hB
  refine wlVal (opAssign rfl) rfl ?_
  refine wlThen ?_
  refine wcRet ?_
  exact fun ac_ ha => hQ _ _ _ (results1 ha rfl rfl) ha.df (endS hC hw rfl)

theorem isort_ret (G0 : Gh) (w0 : World) (hw : Holds G0 w0) (vs : Value) (s : List Stand) (os : Option Bx) (hs : Ow G0 os 43 vs s) (hBs : Bxs G0 w0 w0.heap.size (Option.toList os) ((Option.toList os).map (·.1))) (n : Nat) (ff : FuncId) (cf : List Value) (pf : Stand → Stand → Int) (kf : callOk Tryd.prog ff = true) (hf : ∀ (G : Gh) (w : World) (f_x0 : Stand) (f_x1 : Stand), GLe G0 G → Holds G w → RetS Tryd.prog ff ([Value.agg f_x0.cells.toArray, Value.agg f_x1.cells.toArray] ++ cf).toArray G w (.int .i64 (pf f_x0 f_x1))) (hpos : 0 < s.length) (hln : n = s.length) (hsm : s.length ≤ 12) :
    RetP Tryd.prog 60 #[vs, .int .i64 0, .int .i64 ((n : Nat) : Int), .func (.func ff) #[] cf.toArray] G0 w0 ((Option.toList os).map (·.1)) (fun G o v => v = .tuple #[] ∧ Ow G o 43 vs ((isortG pf s))) := by
  have hC := Cx.reflM ((Option.toList os).map (·.1)) hw
  have hB : Bxs G0 w0 w0.heap.size ([] ++ (Option.toList os ++ [])) ((Option.toList os).map (·.1)) := by simpa using hBs
  obtain ⟨A1, cap2, rfl⟩ := hs.form
  obtain ⟨g3, so4, cs5, rfl, rfl⟩ := hs.addr hpos
  refine callsOfN Tryd.func60 rfl _ Tryd.ntmps60 rfl _ (argsCons (argsCons (argsCons (argsCons argsNil (t := 0) rfl) (t := 1) rfl) (t := 2) rfl) (t := 3) rfl) ?_; intro Q0 hQ hN
  refine wcSeq ?_
  refine wcRegion ?_
  refine wlVal (opMove rfl) rfl ?_
  refine wlVal (OpVal.cast (v' := .int .i64 1) (opAdd rfl rfl) (congrArg (Value.int .i64) (by decide))) rfl ?_
  refine wlVal (opAssign rfl) rfl ?_
  refine wlThen ?_
  refine wcBlock ?_
  refine WC.sub (wrInd (ι := Nat × (List Value) × (List Stand)) (fun i => match i with | (oi, ulC, ul) => n - oi) (fun i G w => match i with | (oi, ulC, ul) => Cx w0 G0 G w ⟨((Option.toList (some (g3, 43, cs5))).map (·.1)), []⟩ ∧ Bxs G w w0.heap.size ([] ++ (Option.toList ((some (g3, 43, ulC))) ++ [])) ⟨((Option.toList (some (g3, 43, cs5))).map (·.1)), []⟩ ∧ Ow G (some (g3, 43, ulC)) 43 (.slice (some ⟨g3, so4, none⟩) s.length cap2) ul ∧ ul.length = s.length ∧ isI pf (n - oi) oi ul = isortG pf s) (fun i => match i with | (oi, ulC, ul) => (((((Env.nil.put 0 (.slice (some ⟨g3, so4, none⟩) s.length cap2)).put 1 (.int .i64 0)).put 2 (.int .i64 (((n : Nat) : Int)))).put 3 (.func (.func ff) #[] cf.toArray)).put 8 (.int .i64 (((oi : Nat) : Int))))) ?_ (1, cs5, s) _ _ ⟨hC, hB, hs, rfl, (by rw [hln]; rfl)⟩) (fun _ ha => (((((ha.start.cons ha (t := 0) rfl).cons ha (t := 1) rfl).cons ha (t := 2) rfl).cons ha (t := 3) rfl).cons ha (t := 8) rfl))
  rintro ⟨oi, ulC, ul⟩ G w N0 IH0 ⟨hC, hB, hOul, hul, hI⟩
  show WC _ _ _ _ (((((Env.nil.put 0 (.slice (some ⟨g3, so4, none⟩) s.length cap2)).put 1 (.int .i64 0)).put 2 (.int .i64 (((n : Nat) : Int)))).put 3 (.func (.func ff) #[] cf.toArray)).put 8 (.int .i64 (((oi : Nat) : Int)))) w
  refine wcSeq ?_
  refine wcSeq ?_
  refine wcRegion ?_
  refine wlVal (opMove rfl) rfl ?_
  refine wlVal (opMove rfl) rfl ?_
  refine wlVal (opLssN rfl rfl) rfl ?_
  refine wlThen ?_
  cases h6 : decide (oi < n)
  · skip
    refine wcCondF rfl ?_
    refine wcExit ?_
    exact fun ac_ ha => hN _ _ _ (results0 ha rfl) ha.df (endP (bl := []) (o := (some (g3, 43, ulC))) (r := []) hC hB ⟨rfl, (by rw [← is_end hI h6]; exact hOul)⟩)
  · skip
    refine wcCondT rfl ?_
    refine wcSkip ?_
    refine wcOf ?_
    refine wcSeq ?_
    refine wcBlock ?_
    refine wcSeq ?_
    refine wcRegion ?_
    refine wlVal (opMove rfl) rfl ?_
    refine wlVal (opAssign rfl) rfl ?_
    refine wlThen ?_
    refine wcBlock ?_
    refine WC.sub (wrInd (ι := Nat × (List Value) × (List Stand)) (fun i => match i with | (j, wlC, wl) => j) (fun i G w => match i with | (j, wlC, wl) => Cx w0 G0 G w ⟨((Option.toList (some (g3, 43, cs5))).map (·.1)), []⟩ ∧ Bxs G w w0.heap.size ([] ++ (Option.toList ((some (g3, 43, wlC))) ++ [])) ⟨((Option.toList (some (g3, 43, cs5))).map (·.1)), []⟩ ∧ Ow G (some (g3, 43, wlC)) 43 (.slice (some ⟨g3, so4, none⟩) s.length cap2) wl ∧ wl.length = s.length ∧ j ≤ oi ∧ isJ pf j wl = isJ pf oi ul) (fun i => match i with | (j, wlC, wl) => ((((((Env.nil.put 0 (.slice (some ⟨g3, so4, none⟩) s.length cap2)).put 1 (.int .i64 0)).put 2 (.int .i64 (((n : Nat) : Int)))).put 3 (.func (.func ff) #[] cf.toArray)).put 8 (.int .i64 (((oi : Nat) : Int)))).put 9 (.int .i64 (((j : Nat) : Int))))) ?_ (oi, ulC, ul) _ _ ⟨hC, hB, hOul, hul, (Nat.le_refl _), rfl⟩) (fun _ ha => ((((((ha.start.cons ha (t := 0) rfl).cons ha (t := 1) rfl).cons ha (t := 2) rfl).cons ha (t := 3) rfl).cons ha (t := 8) rfl).cons ha (t := 9) rfl))
    rintro ⟨j, wlC, wl⟩ G w N1 IH1 ⟨hC, hB, hOwl, hwl, hj, hJ⟩
    show WC _ _ _ _ ((((((Env.nil.put 0 (.slice (some ⟨g3, so4, none⟩) s.length cap2)).put 1 (.int .i64 0)).put 2 (.int .i64 (((n : Nat) : Int)))).put 3 (.func (.func ff) #[] cf.toArray)).put 8 (.int .i64 (((oi : Nat) : Int)))).put 9 (.int .i64 (((j : Nat) : Int)))) w
    refine wcSeq ?_
    refine wcSeq ?_
    cases h7 : decide (0 < ((j : Nat) : Int))
    · skip
      refine wcDrawT 14 fmix (by kernel_rfl) (by kernel_rfl) (by kernel_rfl) (by kernel_rfl) (vAt [(fun _ v_ => v_ = (.int .i64 (((j : Nat) : Int)))), (fun _ v_ => v_ = (.int .i64 0)), (fun _ v_ => v_ = (.bool false)), (fun _ v_ => v_ = (.bool false)), (fun _ v_ => v_ = undef), (fun _ v_ => v_ = undef), (fun _ v_ => v_ = undef), (fun _ v_ => v_ = undef), (fun _ v_ => v_ = undef), (fun _ v_ => v_ = undef), (fun _ v_ => v_ = undef), (fun _ v_ => v_ = undef), (fun _ v_ => v_ = undef), (fun _ v_ => v_ = undef)]) (fun _ _ G' w => Cx w0 G0 G' w ⟨((Option.toList (some (g3, 43, cs5))).map (·.1)), []⟩ ∧ Bxs G' w w0.heap.size ([] ++ (Option.toList ((some (g3, 43, wlC))) ++ [])) ⟨((Option.toList (some (g3, 43, cs5))).map (·.1)), []⟩ ∧ GLe G G') G (vAt_mono ⟨fun _ _ _ _ h => h, fun _ _ _ _ h => h, fun _ _ _ _ h => h, fun _ _ _ _ h => h, fun _ _ _ _ h => h, fun _ _ _ _ h => h, fun _ _ _ _ h => h, fun _ _ _ _ h => h, fun _ _ _ _ h => h, fun _ _ _ _ h => h, fun _ _ _ _ h => h, fun _ _ _ _ h => h, fun _ _ _ _ h => h, fun _ _ _ _ h => h, trivial⟩) (fun _ _ => ⟨hC.drew, hB.drew, fun _ _ h => h⟩) ?_ ?_
      · refine dsNone (j := 1) rfl ?_ ?_
        · intro done G w ac_ hd hp hn ⟨hC, hB, hg⟩ hM
          have f9 : ac_.tmps[9]? = some (.int .i64 (((j : Nat) : Int))) := hM.old0 rfl rfl
          have hF : Fr 53 ac_ (Env.nil.put 9 (.int .i64 (((j : Nat) : Int)))) := (hM.fr.add f9)
          exact OpVal.draw hF (opMove rfl) ⟨G, fun _ _ h => h, ⟨hC, hB, hg⟩, rfl⟩
        refine dsNone (j := 2) rfl ?_ ?_
        · intro done G w ac_ hd hp hn ⟨hC, hB, hg⟩ hM
          have f1 : ac_.tmps[1]? = some (.int .i64 0) := hM.old0 rfl rfl
          have hF : Fr 53 ac_ (Env.nil.put 1 (.int .i64 0)) := (hM.fr.add f1)
          exact OpVal.draw hF (opMove rfl) ⟨G, fun _ _ h => h, ⟨hC, hB, hg⟩, rfl⟩
        refine dsNone (j := 3) rfl ?_ ?_
        · intro done G w ac_ hd hp hn ⟨hC, hB, hg⟩ hM
          have f18 : ac_.tmps[18]? = some (.int .i64 (((j : Nat) : Int))) := hM.eqv 0 rfl (hp 0 rfl) rfl rfl
          have f19 : ac_.tmps[19]? = some (.int .i64 0) := hM.eqv 1 rfl (hp 1 rfl) rfl rfl
          have hF : Fr 53 ac_ ((Env.nil.put 18 (.int .i64 (((j : Nat) : Int)))).put 19 (.int .i64 0)) := ((hM.fr.add f18).add f19)
          exact OpVal.draw hF (OpVal.cast (opGtr rfl rfl) (congrArg Value.bool h7)) ⟨G, fun _ _ h => h, ⟨hC, hB, hg⟩, rfl⟩
        refine dsNone (j := 4) rfl ?_ ?_
        · intro done G w ac_ hd hp hn ⟨hC, hB, hg⟩ hM
          have f20 : ac_.tmps[20]? = some (.bool false) := hM.eqv 2 rfl (hp 2 rfl) rfl rfl
          have hF : Fr 53 ac_ (Env.nil.put 20 (.bool false)) := (hM.fr.add f20)
          exact OpVal.draw hF (opMove rfl) ⟨G, fun _ _ h => h, ⟨hC, hB, hg⟩, rfl⟩
        refine dsOff (j := 5) (b' := false) rfl rfl rfl ?_ ?_
        · intro done G w ac_ hd hp hn ⟨hC, hB, hg⟩ hM
          have f21 : ac_.tmps[21]? = some (.bool false) := hM.eqv 3 rfl (hp 3 rfl) rfl rfl
          exact ⟨f21, ⟨hC, hB, hg⟩, rfl⟩
        refine dsOff (j := 6) (b' := false) rfl rfl rfl ?_ ?_
        · intro done G w ac_ hd hp hn ⟨hC, hB, hg⟩ hM
          have f21 : ac_.tmps[21]? = some (.bool false) := hM.eqv 3 rfl (hp 3 rfl) rfl rfl
          exact ⟨f21, ⟨hC, hB, hg⟩, rfl⟩
        refine dsOff (j := 7) (b' := false) rfl rfl rfl ?_ ?_
        · intro done G w ac_ hd hp hn ⟨hC, hB, hg⟩ hM
          have f21 : ac_.tmps[21]? = some (.bool false) := hM.eqv 3 rfl (hp 3 rfl) rfl rfl
          exact ⟨f21, ⟨hC, hB, hg⟩, rfl⟩
        refine dsOff (j := 8) (b' := false) rfl rfl rfl ?_ ?_
        · intro done G w ac_ hd hp hn ⟨hC, hB, hg⟩ hM
          have f21 : ac_.tmps[21]? = some (.bool false) := hM.eqv 3 rfl (hp 3 rfl) rfl rfl
          exact ⟨f21, ⟨hC, hB, hg⟩, rfl⟩
        refine dsOff (j := 9) (b' := false) rfl rfl rfl ?_ ?_
        · intro done G w ac_ hd hp hn ⟨hC, hB, hg⟩ hM
          have f21 : ac_.tmps[21]? = some (.bool false) := hM.eqv 3 rfl (hp 3 rfl) rfl rfl
          exact ⟨f21, ⟨hC, hB, hg⟩, rfl⟩
        refine dsOff (j := 10) (b' := false) rfl rfl rfl ?_ ?_
        · intro done G w ac_ hd hp hn ⟨hC, hB, hg⟩ hM
          have f21 : ac_.tmps[21]? = some (.bool false) := hM.eqv 3 rfl (hp 3 rfl) rfl rfl
          exact ⟨f21, ⟨hC, hB, hg⟩, rfl⟩
        refine dsOff (j := 11) (b' := false) rfl rfl rfl ?_ ?_
        · intro done G w ac_ hd hp hn ⟨hC, hB, hg⟩ hM
          have f21 : ac_.tmps[21]? = some (.bool false) := hM.eqv 3 rfl (hp 3 rfl) rfl rfl
          exact ⟨f21, ⟨hC, hB, hg⟩, rfl⟩
        refine dsOff (j := 12) (b' := false) rfl rfl rfl ?_ ?_
        · intro done G w ac_ hd hp hn ⟨hC, hB, hg⟩ hM
          have f21 : ac_.tmps[21]? = some (.bool false) := hM.eqv 3 rfl (hp 3 rfl) rfl rfl
          exact ⟨f21, ⟨hC, hB, hg⟩, rfl⟩
        refine dsOff (j := 13) (b' := false) rfl rfl rfl ?_ ?_
        · intro done G w ac_ hd hp hn ⟨hC, hB, hg⟩ hM
          have f21 : ac_.tmps[21]? = some (.bool false) := hM.eqv 3 rfl (hp 3 rfl) rfl rfl
          exact ⟨f21, ⟨hC, hB, hg⟩, rfl⟩
        refine dsOff (j := 14) (b' := false) rfl rfl rfl ?_ ?_
        · intro done G w ac_ hd hp hn ⟨hC, hB, hg⟩ hM
          have f21 : ac_.tmps[21]? = some (.bool false) := hM.eqv 3 rfl (hp 3 rfl) rfl rfl
          exact ⟨f21, ⟨hC, hB, hg⟩, rfl⟩
        exact dsNil
      · intro done G w ac_ hall htl ⟨hC, hB, hg⟩ hM
        replace hOwl := hOwl.mono hg
        have f0 : ac_.tmps[0]? = some (.slice (some ⟨g3, so4, none⟩) s.length cap2) := hM.old0 rfl rfl
        have f1 : ac_.tmps[1]? = some (.int .i64 0) := hM.old0 rfl rfl
        have f2 : ac_.tmps[2]? = some (.int .i64 (((n : Nat) : Int))) := hM.old0 rfl rfl
        have f3 : ac_.tmps[3]? = some (.func (.func ff) #[] cf.toArray) := hM.old0 rfl rfl
        have f8 : ac_.tmps[8]? = some (.int .i64 (((oi : Nat) : Int))) := hM.old0 rfl rfl
        have f9 : ac_.tmps[9]? = some (.int .i64 (((j : Nat) : Int))) := hM.old0 rfl rfl
        have f21 : ac_.tmps[21]? = some (.bool false) := hM.eqv 3 rfl (hall 3 rfl) rfl rfl
        have f22 : ac_.tmps[22]? = some undef := hM.eqv 4 rfl (hall 4 rfl) rfl rfl
        have f26 : ac_.tmps[26]? = some undef := hM.eqv 8 rfl (hall 8 rfl) rfl rfl
        have f31 : ac_.tmps[31]? = some undef := hM.eqv 13 rfl (hall 13 rfl) rfl rfl
        refine ⟨((((((((((Env.nil.put 0 (.slice (some ⟨g3, so4, none⟩) s.length cap2)).put 1 (.int .i64 0)).put 2 (.int .i64 (((n : Nat) : Int)))).put 3 (.func (.func ff) #[] cf.toArray)).put 8 (.int .i64 (((oi : Nat) : Int)))).put 9 (.int .i64 (((j : Nat) : Int)))).put 21 (.bool false)).put 22 undef).put 26 undef).put 31 undef), ((((((((((hM.fr.add f0).add f1).add f2).add f3).add f8).add f9).add f21).add f22).add f26).add f31), ?_⟩
        clear hM hall htl
        refine wlOff rfl rfl rfl rfl ?_
        refine wlOff rfl rfl rfl rfl ?_
        refine wlVal (opPickF rfl rfl) rfl ?_
        refine wlThen ?_
        refine wcCondF rfl ?_
        refine wcExit ?_
        refine wcOf ?_
        refine wcRegion ?_
        refine wlVal (opMove rfl) rfl ?_
        refine wlVal (opIncr rfl rfl (is_sm hln hsm (Nat.le_refl _) h6)) rfl ?_
        refine wlVal (opAssign rfl) rfl ?_
        refine wlRound ?_
        exact (IH0 (oi + 1, wlC, wl) _ _ ⟨hC, hB, hOwl, hwl, (is_out hI h6 hJ (is_stop0 h7))⟩ (by have := of_decide_eq_true h6; simp; omega)).sub (fun _ ha => (((((ha.start.cons ha (t := 0) rfl).cons ha (t := 1) rfl).cons ha (t := 2) rfl).cons ha (t := 3) rfl).cons ha (t := 8) rfl))
    · skip
      obtain ⟨x8, hx9⟩ : ∃ y_, wl[j]? = some y_ := ⟨_, List.getElem?_eq_getElem (by have q := of_decide_eq_true h6; (try simp only [List.length_set]); omega)⟩
      obtain ⟨x14, hx15⟩ : ∃ y_, wl[(j - 1)]? = some y_ := ⟨_, List.getElem?_eq_getElem (by have q := of_decide_eq_true h6; (try simp only [List.length_set]); omega)⟩
      refine wcDrawT 14 fmix (by kernel_rfl) (by kernel_rfl) (by kernel_rfl) (by kernel_rfl) (vAt [(fun _ v_ => v_ = (.int .i64 (((j : Nat) : Int)))), (fun _ v_ => v_ = (.int .i64 0)), (fun _ v_ => v_ = (.bool true)), (fun _ v_ => v_ = (.bool true)), (fun _ v_ => v_ = (.func (.func ff) #[] cf.toArray)), (fun _ v_ => v_ = (.slice (some ⟨g3, so4, none⟩) s.length cap2)), (fun _ v_ => v_ = (.int .i64 (((j : Nat) : Int)))), (fun _ v_ => v_ = (.pointer (some ⟨g3, so4 + j * 34, none⟩))), (fun _ v_ => v_ = (.agg x8.cells.toArray)), (fun _ v_ => v_ = (.slice (some ⟨g3, so4, none⟩) s.length cap2)), (fun _ v_ => v_ = (.int .i64 (((j : Nat) : Int)))), (fun _ v_ => v_ = (.int .i64 ((((j - 1) : Nat) : Int)))), (fun _ v_ => v_ = (.pointer (some ⟨g3, so4 + ((j - 1)) * 34, none⟩))), (fun _ v_ => v_ = (.agg x14.cells.toArray))]) (fun _ _ G' w => Cx w0 G0 G' w ⟨((Option.toList (some (g3, 43, cs5))).map (·.1)), []⟩ ∧ Bxs G' w w0.heap.size ([] ++ (Option.toList ((some (g3, 43, wlC))) ++ [])) ⟨((Option.toList (some (g3, 43, cs5))).map (·.1)), []⟩ ∧ GLe G G') G (vAt_mono ⟨fun _ _ _ _ h => h, fun _ _ _ _ h => h, fun _ _ _ _ h => h, fun _ _ _ _ h => h, fun _ _ _ _ h => h, fun _ _ _ _ h => h, fun _ _ _ _ h => h, fun _ _ _ _ h => h, fun _ _ _ _ h => h, fun _ _ _ _ h => h, fun _ _ _ _ h => h, fun _ _ _ _ h => h, fun _ _ _ _ h => h, fun _ _ _ _ h => h, trivial⟩) (fun _ _ => ⟨hC.drew, hB.drew, fun _ _ h => h⟩) ?_ ?_
      · refine dsNone (j := 1) rfl ?_ ?_
        · intro done G w ac_ hd hp hn ⟨hC, hB, hg⟩ hM
          have f9 : ac_.tmps[9]? = some (.int .i64 (((j : Nat) : Int))) := hM.old0 rfl rfl
          have hF : Fr 53 ac_ (Env.nil.put 9 (.int .i64 (((j : Nat) : Int)))) := (hM.fr.add f9)
          exact OpVal.draw hF (opMove rfl) ⟨G, fun _ _ h => h, ⟨hC, hB, hg⟩, rfl⟩
        refine dsNone (j := 2) rfl ?_ ?_
        · intro done G w ac_ hd hp hn ⟨hC, hB, hg⟩ hM
          have f1 : ac_.tmps[1]? = some (.int .i64 0) := hM.old0 rfl rfl
          have hF : Fr 53 ac_ (Env.nil.put 1 (.int .i64 0)) := (hM.fr.add f1)
          exact OpVal.draw hF (opMove rfl) ⟨G, fun _ _ h => h, ⟨hC, hB, hg⟩, rfl⟩
        refine dsNone (j := 3) rfl ?_ ?_
        · intro done G w ac_ hd hp hn ⟨hC, hB, hg⟩ hM
          have f18 : ac_.tmps[18]? = some (.int .i64 (((j : Nat) : Int))) := hM.eqv 0 rfl (hp 0 rfl) rfl rfl
          have f19 : ac_.tmps[19]? = some (.int .i64 0) := hM.eqv 1 rfl (hp 1 rfl) rfl rfl
          have hF : Fr 53 ac_ ((Env.nil.put 18 (.int .i64 (((j : Nat) : Int)))).put 19 (.int .i64 0)) := ((hM.fr.add f18).add f19)
          exact OpVal.draw hF (OpVal.cast (opGtr rfl rfl) (congrArg Value.bool h7)) ⟨G, fun _ _ h => h, ⟨hC, hB, hg⟩, rfl⟩
        refine dsNone (j := 4) rfl ?_ ?_
        · intro done G w ac_ hd hp hn ⟨hC, hB, hg⟩ hM
          have f20 : ac_.tmps[20]? = some (.bool true) := hM.eqv 2 rfl (hp 2 rfl) rfl rfl
          have hF : Fr 53 ac_ (Env.nil.put 20 (.bool true)) := (hM.fr.add f20)
          exact OpVal.draw hF (opMove rfl) ⟨G, fun _ _ h => h, ⟨hC, hB, hg⟩, rfl⟩
        refine dsOn (j := 5) rfl rfl ?_ ?_
        · intro done G w ac_ hd hp hn ⟨hC, hB, hg⟩ hM
          have f3 : ac_.tmps[3]? = some (.func (.func ff) #[] cf.toArray) := hM.old0 rfl rfl
          have f21 : ac_.tmps[21]? = some (.bool true) := hM.eqv 3 rfl (hp 3 rfl) rfl rfl
          refine ⟨f21, ?_⟩
          have hF : Fr 53 ac_ (Env.nil.put 3 (.func (.func ff) #[] cf.toArray)) := (hM.fr.add f3)
          exact OpVal.draw hF (opMove rfl) ⟨G, fun _ _ h => h, ⟨hC, hB, hg⟩, rfl⟩
        refine dsOn (j := 6) rfl rfl ?_ ?_
        · intro done G w ac_ hd hp hn ⟨hC, hB, hg⟩ hM
          have f0 : ac_.tmps[0]? = some (.slice (some ⟨g3, so4, none⟩) s.length cap2) := hM.old0 rfl rfl
          have f21 : ac_.tmps[21]? = some (.bool true) := hM.eqv 3 rfl (hp 3 rfl) rfl rfl
          refine ⟨f21, ?_⟩
          have hF : Fr 53 ac_ (Env.nil.put 0 (.slice (some ⟨g3, so4, none⟩) s.length cap2)) := (hM.fr.add f0)
          exact OpVal.draw hF (opMove rfl) ⟨G, fun _ _ h => h, ⟨hC, hB, hg⟩, rfl⟩
        refine dsOn (j := 7) rfl rfl ?_ ?_
        · intro done G w ac_ hd hp hn ⟨hC, hB, hg⟩ hM
          have f9 : ac_.tmps[9]? = some (.int .i64 (((j : Nat) : Int))) := hM.old0 rfl rfl
          have f21 : ac_.tmps[21]? = some (.bool true) := hM.eqv 3 rfl (hp 3 rfl) rfl rfl
          refine ⟨f21, ?_⟩
          have hF : Fr 53 ac_ (Env.nil.put 9 (.int .i64 (((j : Nat) : Int)))) := (hM.fr.add f9)
          exact OpVal.draw hF (opMove rfl) ⟨G, fun _ _ h => h, ⟨hC, hB, hg⟩, rfl⟩
        refine dsOn (j := 8) rfl rfl ?_ ?_
        · intro done G w ac_ hd hp hn ⟨hC, hB, hg⟩ hM
          have f23 : ac_.tmps[23]? = some (.slice (some ⟨g3, so4, none⟩) s.length cap2) := hM.eqv 5 rfl (hp 5 rfl) rfl rfl
          have f24 : ac_.tmps[24]? = some (.int .i64 (((j : Nat) : Int))) := hM.eqv 6 rfl (hp 6 rfl) rfl rfl
          have f21 : ac_.tmps[21]? = some (.bool true) := hM.eqv 3 rfl (hp 3 rfl) rfl rfl
          refine ⟨f21, ?_⟩
          have hF : Fr 53 ac_ ((Env.nil.put 23 (.slice (some ⟨g3, so4, none⟩) s.length cap2)).put 24 (.int .i64 (((j : Nat) : Int)))) := ((hM.fr.add f23).add f24)
          exact OpVal.draw hF (opIndexAddr rfl rfl slo33 (by have q := of_decide_eq_true h6; (try simp only [List.length_set]); omega)) ⟨G, fun _ _ h => h, ⟨hC, hB, hg⟩, rfl⟩
        refine dsOn (j := 9) rfl rfl ?_ ?_
        · intro done G w ac_ hd hp hn ⟨hC, hB, hg⟩ hM
          replace hOwl := hOwl.mono hg
          have f25 : ac_.tmps[25]? = some (.pointer (some ⟨g3, so4 + j * 34, none⟩)) := hM.eqv 7 rfl (hp 7 rfl) rfl rfl
          obtain ⟨row16, hr17, hi18, hl19⟩ := Ow.elemAt (bl := []) (r := []) hOwl hB hx9; obtain rfl := hi18
          have f21 : ac_.tmps[21]? = some (.bool true) := hM.eqv 3 rfl (hp 3 rfl) rfl rfl
          refine ⟨f21, ?_⟩
          have hF : Fr 53 ac_ (Env.nil.put 25 (.pointer (some ⟨g3, so4 + j * 34, none⟩))) := (hM.fr.add f25)
          exact OpVal.draw hF (opLoadRow (cs := x8.cells) rfl hr17 row43 (by simp [Word.cells, Stand.cells, Wd.cells, Mark.cells])) ⟨G, fun _ _ h => h, ⟨hC, hB, hg⟩, rfl⟩
        refine dsOn (j := 10) rfl rfl ?_ ?_
        · intro done G w ac_ hd hp hn ⟨hC, hB, hg⟩ hM
          have f0 : ac_.tmps[0]? = some (.slice (some ⟨g3, so4, none⟩) s.length cap2) := hM.old0 rfl rfl
          have f21 : ac_.tmps[21]? = some (.bool true) := hM.eqv 3 rfl (hp 3 rfl) rfl rfl
          refine ⟨f21, ?_⟩
          have hF : Fr 53 ac_ (Env.nil.put 0 (.slice (some ⟨g3, so4, none⟩) s.length cap2)) := (hM.fr.add f0)
          exact OpVal.draw hF (opMove rfl) ⟨G, fun _ _ h => h, ⟨hC, hB, hg⟩, rfl⟩
        refine dsOn (j := 11) rfl rfl ?_ ?_
        · intro done G w ac_ hd hp hn ⟨hC, hB, hg⟩ hM
          have f9 : ac_.tmps[9]? = some (.int .i64 (((j : Nat) : Int))) := hM.old0 rfl rfl
          have f21 : ac_.tmps[21]? = some (.bool true) := hM.eqv 3 rfl (hp 3 rfl) rfl rfl
          refine ⟨f21, ?_⟩
          have hF : Fr 53 ac_ (Env.nil.put 9 (.int .i64 (((j : Nat) : Int)))) := (hM.fr.add f9)
          exact OpVal.draw hF (opMove rfl) ⟨G, fun _ _ h => h, ⟨hC, hB, hg⟩, rfl⟩
        refine dsOn (j := 12) rfl rfl ?_ ?_
        · intro done G w ac_ hd hp hn ⟨hC, hB, hg⟩ hM
          have f28 : ac_.tmps[28]? = some (.int .i64 (((j : Nat) : Int))) := hM.eqv 10 rfl (hp 10 rfl) rfl rfl
          have f21 : ac_.tmps[21]? = some (.bool true) := hM.eqv 3 rfl (hp 3 rfl) rfl rfl
          refine ⟨f21, ?_⟩
          have hF : Fr 53 ac_ (Env.nil.put 28 (.int .i64 (((j : Nat) : Int)))) := (hM.fr.add f28)
          exact OpVal.draw hF (opDecr rfl rfl (Int.ofNat_lt.1 (of_decide_eq_true h7)) (is_sm hln hsm hj h6)) ⟨G, fun _ _ h => h, ⟨hC, hB, hg⟩, rfl⟩
        refine dsOn (j := 13) rfl rfl ?_ ?_
        · intro done G w ac_ hd hp hn ⟨hC, hB, hg⟩ hM
          have f27 : ac_.tmps[27]? = some (.slice (some ⟨g3, so4, none⟩) s.length cap2) := hM.eqv 9 rfl (hp 9 rfl) rfl rfl
          have f29 : ac_.tmps[29]? = some (.int .i64 ((((j - 1) : Nat) : Int))) := hM.eqv 11 rfl (hp 11 rfl) rfl rfl
          have f21 : ac_.tmps[21]? = some (.bool true) := hM.eqv 3 rfl (hp 3 rfl) rfl rfl
          refine ⟨f21, ?_⟩
          have hF : Fr 53 ac_ ((Env.nil.put 27 (.slice (some ⟨g3, so4, none⟩) s.length cap2)).put 29 (.int .i64 ((((j - 1) : Nat) : Int)))) := ((hM.fr.add f27).add f29)
          exact OpVal.draw hF (opIndexAddr rfl rfl slo33 (by have q := of_decide_eq_true h6; (try simp only [List.length_set]); omega)) ⟨G, fun _ _ h => h, ⟨hC, hB, hg⟩, rfl⟩
        refine dsOn (j := 14) rfl rfl ?_ ?_
        · intro done G w ac_ hd hp hn ⟨hC, hB, hg⟩ hM
          replace hOwl := hOwl.mono hg
          have f30 : ac_.tmps[30]? = some (.pointer (some ⟨g3, so4 + ((j - 1)) * 34, none⟩)) := hM.eqv 12 rfl (hp 12 rfl) rfl rfl
          obtain ⟨row20, hr21, hi22, hl23⟩ := Ow.elemAt (bl := []) (r := []) hOwl hB hx15; obtain rfl := hi22
          have f21 : ac_.tmps[21]? = some (.bool true) := hM.eqv 3 rfl (hp 3 rfl) rfl rfl
          refine ⟨f21, ?_⟩
          have hF : Fr 53 ac_ (Env.nil.put 30 (.pointer (some ⟨g3, so4 + ((j - 1)) * 34, none⟩))) := (hM.fr.add f30)
          exact OpVal.draw hF (opLoadRow (cs := x14.cells) rfl hr21 row43 (by simp [Word.cells, Stand.cells, Wd.cells, Mark.cells])) ⟨G, fun _ _ h => h, ⟨hC, hB, hg⟩, rfl⟩
        exact dsNil
      · intro done G w ac_ hall htl ⟨hC, hB, hg⟩ hM
        replace hOwl := hOwl.mono hg
        have f0 : ac_.tmps[0]? = some (.slice (some ⟨g3, so4, none⟩) s.length cap2) := hM.old0 rfl rfl
        have f1 : ac_.tmps[1]? = some (.int .i64 0) := hM.old0 rfl rfl
        have f2 : ac_.tmps[2]? = some (.int .i64 (((n : Nat) : Int))) := hM.old0 rfl rfl
        have f3 : ac_.tmps[3]? = some (.func (.func ff) #[] cf.toArray) := hM.old0 rfl rfl
        have f8 : ac_.tmps[8]? = some (.int .i64 (((oi : Nat) : Int))) := hM.old0 rfl rfl
        have f9 : ac_.tmps[9]? = some (.int .i64 (((j : Nat) : Int))) := hM.old0 rfl rfl
        have f21 : ac_.tmps[21]? = some (.bool true) := hM.eqv 3 rfl (hall 3 rfl) rfl rfl
        have f22 : ac_.tmps[22]? = some (.func (.func ff) #[] cf.toArray) := hM.eqv 4 rfl (hall 4 rfl) rfl rfl
        have f26 : ac_.tmps[26]? = some (.agg x8.cells.toArray) := hM.eqv 8 rfl (hall 8 rfl) rfl rfl
        have f31 : ac_.tmps[31]? = some (.agg x14.cells.toArray) := hM.eqv 13 rfl (hall 13 rfl) rfl rfl
        refine ⟨((((((((((Env.nil.put 0 (.slice (some ⟨g3, so4, none⟩) s.length cap2)).put 1 (.int .i64 0)).put 2 (.int .i64 (((n : Nat) : Int)))).put 3 (.func (.func ff) #[] cf.toArray)).put 8 (.int .i64 (((oi : Nat) : Int)))).put 9 (.int .i64 (((j : Nat) : Int)))).put 21 (.bool true)).put 22 (.func (.func ff) #[] cf.toArray)).put 26 (.agg x8.cells.toArray)).put 31 (.agg x14.cells.toArray)), ((((((((((hM.fr.add f0).add f1).add f2).add f3).add f8).add f9).add f21).add f22).add f26).add f31), ?_⟩
        clear hM hall htl
        refine wlOn rfl rfl ?_
        refine wlCallS hC hB rfl kf rfl rfl (hf _ _ x8 x14 hC.gle hC.holds ) ?_; intro w hk hC hB
        refine wlOn rfl rfl ?_
        refine wlVal (opLss rfl rfl) rfl ?_
        refine wlVal (opPickT rfl rfl) rfl ?_
        refine wlThen ?_
        cases h24 : decide ((pf x8 x14) < 0)
        · skip
          refine wcCondF rfl ?_
          refine wcExit ?_
          refine wcOf ?_
          refine wcRegion ?_
          refine wlVal (opMove rfl) rfl ?_
          refine wlVal (opIncr rfl rfl (is_sm hln hsm (Nat.le_refl _) h6)) rfl ?_
          refine wlVal (opAssign rfl) rfl ?_
          refine wlRound ?_
          exact (IH0 (oi + 1, wlC, wl) _ _ ⟨hC, hB, hOwl, hwl, (is_out hI h6 hJ (is_stop h7 hx9 hx15 h24))⟩ (by have := of_decide_eq_true h6; have := of_decide_eq_true h7; simp; omega)).sub (fun _ ha => (((((ha.start.cons ha (t := 0) rfl).cons ha (t := 1) rfl).cons ha (t := 2) rfl).cons ha (t := 3) rfl).cons ha (t := 8) rfl))
        · skip
          refine wcCondT rfl ?_
          refine wcSkip ?_
          refine wcOf ?_
          refine wcSeq ?_
          refine wcBlock ?_
          refine wcDrawT 16 fmix (by kernel_rfl) (by kernel_rfl) (by kernel_rfl) (by kernel_rfl) (vAt [(fun _ v_ => v_ = (.slice (some ⟨g3, so4, none⟩) s.length cap2)), (fun _ v_ => v_ = (.int .i64 (((j : Nat) : Int)))), (fun _ v_ => v_ = (.slice (some ⟨g3, so4, none⟩) s.length cap2)), (fun _ v_ => v_ = (.int .i64 (((j : Nat) : Int)))), (fun _ v_ => v_ = (.int .i64 ((((j - 1) : Nat) : Int)))), (fun _ v_ => v_ = (.slice (some ⟨g3, so4, none⟩) s.length cap2)), (fun _ v_ => v_ = (.int .i64 (((j : Nat) : Int)))), (fun _ v_ => v_ = (.int .i64 ((((j - 1) : Nat) : Int)))), (fun _ v_ => v_ = (.pointer (some ⟨g3, so4 + ((j - 1)) * 34, none⟩))), (fun _ v_ => v_ = (.agg x14.cells.toArray)), (fun _ v_ => v_ = (.slice (some ⟨g3, so4, none⟩) s.length cap2)), (fun _ v_ => v_ = (.int .i64 (((j : Nat) : Int)))), (fun _ v_ => v_ = (.pointer (some ⟨g3, so4 + j * 34, none⟩))), (fun _ v_ => v_ = (.agg x8.cells.toArray)), (fun _ v_ => v_ = (.pointer (some ⟨g3, so4 + j * 34, none⟩))), (fun _ _ => True)]) (fun done ac_ G' w => GLe G G' ∧ ∃ (CS15_ : List Value), Cx w0 G0 G' w ⟨((Option.toList (some (g3, 43, cs5))).map (·.1)), []⟩ ∧ (done 15 = true → Ow G' (some (g3, 43, CS15_)) 43 (.slice (some ⟨g3, so4, none⟩) s.length cap2) ((List.set wl j x14) : List Stand)) ∧ Bxs G' w w0.heap.size (([] ++ (Option.toList (bif done 15 then (some (g3, 43, CS15_)) else ((some (g3, 43, wlC)))) ++ []))) ⟨((Option.toList (some (g3, 43, cs5))).map (·.1)), []⟩) G (vAt_mono ⟨fun _ _ _ _ h => h, fun _ _ _ _ h => h, fun _ _ _ _ h => h, fun _ _ _ _ h => h, fun _ _ _ _ h => h, fun _ _ _ _ h => h, fun _ _ _ _ h => h, fun _ _ _ _ h => h, fun _ _ _ _ h => h, fun _ _ _ _ h => h, fun _ _ _ _ h => h, fun _ _ _ _ h => h, fun _ _ _ _ h => h, fun _ _ _ _ h => h, fun _ _ _ _ h => h, fun _ _ _ _ h => h, trivial⟩) (fun _ _ => ⟨fun _ _ h => h, [], hC.drew, (fun h => by cases h), hB.drew⟩) ?_ ?_
          · refine dsNone (j := 1) rfl ?_ ?_
            · intro done G w ac_ hd hp hn ⟨hg, CS15_, hC, hT15, hBx⟩ hM
              have hB := hBx
              have f0 : ac_.tmps[0]? = some (.slice (some ⟨g3, so4, none⟩) s.length cap2) := hM.old0 rfl rfl
              have hF : Fr 53 ac_ (Env.nil.put 0 (.slice (some ⟨g3, so4, none⟩) s.length cap2)) := (hM.fr.add f0)
              exact OpVal.draw hF (opMove rfl) ⟨G, fun _ _ h => h, ⟨hg, CS15_, hC, (fun h => (hT15 h)), hBx⟩, rfl⟩
            refine dsNone (j := 2) rfl ?_ ?_
            · intro done G w ac_ hd hp hn ⟨hg, CS15_, hC, hT15, hBx⟩ hM
              have hB := hBx
              have f9 : ac_.tmps[9]? = some (.int .i64 (((j : Nat) : Int))) := hM.old0 rfl rfl
              have hF : Fr 53 ac_ (Env.nil.put 9 (.int .i64 (((j : Nat) : Int)))) := (hM.fr.add f9)
              exact OpVal.draw hF (opMove rfl) ⟨G, fun _ _ h => h, ⟨hg, CS15_, hC, (fun h => (hT15 h)), hBx⟩, rfl⟩
            refine dsNone (j := 3) rfl ?_ ?_
            · intro done G w ac_ hd hp hn ⟨hg, CS15_, hC, hT15, hBx⟩ hM
              have hB := hBx
              have f0 : ac_.tmps[0]? = some (.slice (some ⟨g3, so4, none⟩) s.length cap2) := hM.old0 rfl rfl
              have hF : Fr 53 ac_ (Env.nil.put 0 (.slice (some ⟨g3, so4, none⟩) s.length cap2)) := (hM.fr.add f0)
              exact OpVal.draw hF (opMove rfl) ⟨G, fun _ _ h => h, ⟨hg, CS15_, hC, (fun h => (hT15 h)), hBx⟩, rfl⟩
            refine dsNone (j := 4) rfl ?_ ?_
            · intro done G w ac_ hd hp hn ⟨hg, CS15_, hC, hT15, hBx⟩ hM
              have hB := hBx
              have f9 : ac_.tmps[9]? = some (.int .i64 (((j : Nat) : Int))) := hM.old0 rfl rfl
              have hF : Fr 53 ac_ (Env.nil.put 9 (.int .i64 (((j : Nat) : Int)))) := (hM.fr.add f9)
              exact OpVal.draw hF (opMove rfl) ⟨G, fun _ _ h => h, ⟨hg, CS15_, hC, (fun h => (hT15 h)), hBx⟩, rfl⟩
            refine dsNone (j := 5) rfl ?_ ?_
            · intro done G w ac_ hd hp hn ⟨hg, CS15_, hC, hT15, hBx⟩ hM
              have hB := hBx
              have f40 : ac_.tmps[40]? = some (.int .i64 (((j : Nat) : Int))) := hM.eqv 3 rfl (hp 3 rfl) rfl rfl
              have hF : Fr 53 ac_ (Env.nil.put 40 (.int .i64 (((j : Nat) : Int)))) := (hM.fr.add f40)
              exact OpVal.draw hF (opDecr rfl rfl (Int.ofNat_lt.1 (of_decide_eq_true h7)) (is_sm hln hsm hj h6)) ⟨G, fun _ _ h => h, ⟨hg, CS15_, hC, (fun h => (hT15 h)), hBx⟩, rfl⟩
            refine dsNone (j := 6) rfl ?_ ?_
            · intro done G w ac_ hd hp hn ⟨hg, CS15_, hC, hT15, hBx⟩ hM
              have hB := hBx
              have f0 : ac_.tmps[0]? = some (.slice (some ⟨g3, so4, none⟩) s.length cap2) := hM.old0 rfl rfl
              have hF : Fr 53 ac_ (Env.nil.put 0 (.slice (some ⟨g3, so4, none⟩) s.length cap2)) := (hM.fr.add f0)
              exact OpVal.draw hF (opMove rfl) ⟨G, fun _ _ h => h, ⟨hg, CS15_, hC, (fun h => (hT15 h)), hBx⟩, rfl⟩
            refine dsNone (j := 7) rfl ?_ ?_
            · intro done G w ac_ hd hp hn ⟨hg, CS15_, hC, hT15, hBx⟩ hM
              have hB := hBx
              have f9 : ac_.tmps[9]? = some (.int .i64 (((j : Nat) : Int))) := hM.old0 rfl rfl
              have hF : Fr 53 ac_ (Env.nil.put 9 (.int .i64 (((j : Nat) : Int)))) := (hM.fr.add f9)
              exact OpVal.draw hF (opMove rfl) ⟨G, fun _ _ h => h, ⟨hg, CS15_, hC, (fun h => (hT15 h)), hBx⟩, rfl⟩
            refine dsNone (j := 8) rfl ?_ ?_
            · intro done G w ac_ hd hp hn ⟨hg, CS15_, hC, hT15, hBx⟩ hM
              have hB := hBx
              have f43 : ac_.tmps[43]? = some (.int .i64 (((j : Nat) : Int))) := hM.eqv 6 rfl (hp 6 rfl) rfl rfl
              have hF : Fr 53 ac_ (Env.nil.put 43 (.int .i64 (((j : Nat) : Int)))) := (hM.fr.add f43)
              exact OpVal.draw hF (opDecr rfl rfl (Int.ofNat_lt.1 (of_decide_eq_true h7)) (is_sm hln hsm hj h6)) ⟨G, fun _ _ h => h, ⟨hg, CS15_, hC, (fun h => (hT15 h)), hBx⟩, rfl⟩
            refine dsNone (j := 9) rfl ?_ ?_
            · intro done G w ac_ hd hp hn ⟨hg, CS15_, hC, hT15, hBx⟩ hM
              have hB := hBx
              have f42 : ac_.tmps[42]? = some (.slice (some ⟨g3, so4, none⟩) s.length cap2) := hM.eqv 5 rfl (hp 5 rfl) rfl rfl
              have f44 : ac_.tmps[44]? = some (.int .i64 ((((j - 1) : Nat) : Int))) := hM.eqv 7 rfl (hp 7 rfl) rfl rfl
              have hF : Fr 53 ac_ ((Env.nil.put 42 (.slice (some ⟨g3, so4, none⟩) s.length cap2)).put 44 (.int .i64 ((((j - 1) : Nat) : Int)))) := ((hM.fr.add f42).add f44)
              exact OpVal.draw hF (opIndexAddr rfl rfl slo33 (by have q := of_decide_eq_true h6; (try simp only [List.length_set]); omega)) ⟨G, fun _ _ h => h, ⟨hg, CS15_, hC, (fun h => (hT15 h)), hBx⟩, rfl⟩
            refine dsNone (j := 10) rfl ?_ ?_
            · intro done G w ac_ hd hp hn ⟨hg, CS15_, hC, hT15, hBx⟩ hM
              have hB := hBx
              try simp only [hn 15 _ rfl rfl, cond_false] at hB
              replace hOwl := hOwl.mono hg
              have f45 : ac_.tmps[45]? = some (.pointer (some ⟨g3, so4 + ((j - 1)) * 34, none⟩)) := hM.eqv 8 rfl (hp 8 rfl) rfl rfl
              obtain ⟨row25, hr26, hi27, hl28⟩ := Ow.elemAt (bl := []) (r := []) hOwl hB hx15; obtain rfl := hi27
              have hF : Fr 53 ac_ (Env.nil.put 45 (.pointer (some ⟨g3, so4 + ((j - 1)) * 34, none⟩))) := (hM.fr.add f45)
              exact OpVal.draw hF (opLoadRow (cs := x14.cells) rfl hr26 row43 (by simp [Word.cells, Stand.cells, Wd.cells, Mark.cells])) ⟨G, fun _ _ h => h, ⟨hg, CS15_, hC, (fun h => (hT15 h)), hBx⟩, rfl⟩
            refine dsNone (j := 11) rfl ?_ ?_
            · intro done G w ac_ hd hp hn ⟨hg, CS15_, hC, hT15, hBx⟩ hM
              have hB := hBx
              have f0 : ac_.tmps[0]? = some (.slice (some ⟨g3, so4, none⟩) s.length cap2) := hM.old0 rfl rfl
              have hF : Fr 53 ac_ (Env.nil.put 0 (.slice (some ⟨g3, so4, none⟩) s.length cap2)) := (hM.fr.add f0)
              exact OpVal.draw hF (opMove rfl) ⟨G, fun _ _ h => h, ⟨hg, CS15_, hC, (fun h => (hT15 h)), hBx⟩, rfl⟩
            refine dsNone (j := 12) rfl ?_ ?_
            · intro done G w ac_ hd hp hn ⟨hg, CS15_, hC, hT15, hBx⟩ hM
              have hB := hBx
              have f9 : ac_.tmps[9]? = some (.int .i64 (((j : Nat) : Int))) := hM.old0 rfl rfl
              have hF : Fr 53 ac_ (Env.nil.put 9 (.int .i64 (((j : Nat) : Int)))) := (hM.fr.add f9)
              exact OpVal.draw hF (opMove rfl) ⟨G, fun _ _ h => h, ⟨hg, CS15_, hC, (fun h => (hT15 h)), hBx⟩, rfl⟩
            refine dsNone (j := 13) rfl ?_ ?_
            · intro done G w ac_ hd hp hn ⟨hg, CS15_, hC, hT15, hBx⟩ hM
              have hB := hBx
              have f47 : ac_.tmps[47]? = some (.slice (some ⟨g3, so4, none⟩) s.length cap2) := hM.eqv 10 rfl (hp 10 rfl) rfl rfl
              have f48 : ac_.tmps[48]? = some (.int .i64 (((j : Nat) : Int))) := hM.eqv 11 rfl (hp 11 rfl) rfl rfl
              have hF : Fr 53 ac_ ((Env.nil.put 47 (.slice (some ⟨g3, so4, none⟩) s.length cap2)).put 48 (.int .i64 (((j : Nat) : Int)))) := ((hM.fr.add f47).add f48)
              exact OpVal.draw hF (opIndexAddr rfl rfl slo33 (by have q := of_decide_eq_true h6; (try simp only [List.length_set]); omega)) ⟨G, fun _ _ h => h, ⟨hg, CS15_, hC, (fun h => (hT15 h)), hBx⟩, rfl⟩
            refine dsNone (j := 14) rfl ?_ ?_
            · intro done G w ac_ hd hp hn ⟨hg, CS15_, hC, hT15, hBx⟩ hM
              have hB := hBx
              try simp only [hn 15 _ rfl rfl, cond_false] at hB
              replace hOwl := hOwl.mono hg
              have f49 : ac_.tmps[49]? = some (.pointer (some ⟨g3, so4 + j * 34, none⟩)) := hM.eqv 12 rfl (hp 12 rfl) rfl rfl
              obtain ⟨row29, hr30, hi31, hl32⟩ := Ow.elemAt (bl := []) (r := []) hOwl hB hx9; obtain rfl := hi31
              have hF : Fr 53 ac_ (Env.nil.put 49 (.pointer (some ⟨g3, so4 + j * 34, none⟩))) := (hM.fr.add f49)
              exact OpVal.draw hF (opLoadRow (cs := x8.cells) rfl hr30 row43 (by simp [Word.cells, Stand.cells, Wd.cells, Mark.cells])) ⟨G, fun _ _ h => h, ⟨hg, CS15_, hC, (fun h => (hT15 h)), hBx⟩, rfl⟩
            refine dsNone (j := 15) rfl ?_ ?_
            · intro done G w ac_ hd hp hn ⟨hg, CS15_, hC, hT15, hBx⟩ hM
              have hB := hBx
              have f37 : ac_.tmps[37]? = some (.slice (some ⟨g3, so4, none⟩) s.length cap2) := hM.eqv 0 rfl (hp 0 rfl) rfl rfl
              have f38 : ac_.tmps[38]? = some (.int .i64 (((j : Nat) : Int))) := hM.eqv 1 rfl (hp 1 rfl) rfl rfl
              have hF : Fr 53 ac_ ((Env.nil.put 37 (.slice (some ⟨g3, so4, none⟩) s.length cap2)).put 38 (.int .i64 (((j : Nat) : Int)))) := ((hM.fr.add f37).add f38)
              exact OpVal.draw hF (opIndexAddr rfl rfl slo33 (by have q := of_decide_eq_true h6; (try simp only [List.length_set]); omega)) ⟨G, fun _ _ h => h, ⟨hg, CS15_, hC, (fun h => (hT15 h)), hBx⟩, rfl⟩
            refine dsNone (j := 16) rfl ?_ ?_
            · intro done G w ac_ hd hp hn ⟨hg, CS15_, hC, hT15, hBx⟩ hM
              have hB := hBx
              replace hOwl := hOwl.mono hg
              have f46 : ac_.tmps[46]? = some (.agg x14.cells.toArray) := hM.eqv 9 rfl (hp 9 rfl) rfl rfl
              have f51 : ac_.tmps[51]? = some (.pointer (some ⟨g3, so4 + j * 34, none⟩)) := hM.eqv 14 rfl (hp 14 rfl) rfl rfl
              have hF : Fr 53 ac_ ((Env.nil.put 46 (.agg x14.cells.toArray)).put 51 (.pointer (some ⟨g3, so4 + j * 34, none⟩))) := ((hM.fr.add f46).add f51)
              simp only [hd, cond_false] at hBx
              exact drawStoreOw (α := Stand) (bl := []) (r := []) (vs := x14.cells) (off := 0) (y := x14) hF hC hBx hOwl hx9 rfl (by show _ = so4 + _ * 34 + 0; omega) rfl sz43 rfl (by simp [Word.cells, Stand.cells, Wd.cells, Mark.cells]) (by simp [Word.cells, Stand.cells, Wd.cells, Mark.cells, Value.oneCell']) (Nat.le_refl _) (fun row h => by obtain rfl := h; exact whole_row (by simp) (by simp)) (fun cs_ w' hC hB hO_ => ⟨G, fun _ _ h => h, ⟨hg, cs_, hC, (fun _ => hO_), by simpa [Done.set] using hB⟩, trivial⟩)
            exact dsNil
          · intro done G w ac_ hall htl ⟨hg, cs34, hC, hT15, hB⟩ hM
            replace hOwl := hOwl.mono hg
            have f0 : ac_.tmps[0]? = some (.slice (some ⟨g3, so4, none⟩) s.length cap2) := hM.old0 rfl rfl
            have f1 : ac_.tmps[1]? = some (.int .i64 0) := hM.old0 rfl rfl
            have f2 : ac_.tmps[2]? = some (.int .i64 (((n : Nat) : Int))) := hM.old0 rfl rfl
            have f3 : ac_.tmps[3]? = some (.func (.func ff) #[] cf.toArray) := hM.old0 rfl rfl
            have f8 : ac_.tmps[8]? = some (.int .i64 (((oi : Nat) : Int))) := hM.old0 rfl rfl
            have f9 : ac_.tmps[9]? = some (.int .i64 (((j : Nat) : Int))) := hM.old0 rfl rfl
            have f39 : ac_.tmps[39]? = some (.slice (some ⟨g3, so4, none⟩) s.length cap2) := hM.eqv 2 rfl (hall 2 rfl) rfl rfl
            have f41 : ac_.tmps[41]? = some (.int .i64 ((((j - 1) : Nat) : Int))) := hM.eqv 4 rfl (hall 4 rfl) rfl rfl
            have f50 : ac_.tmps[50]? = some (.agg x8.cells.toArray) := hM.eqv 13 rfl (hall 13 rfl) rfl rfl
            have hO33 := (hT15 (hall 15 rfl))
            try simp only [hall 15 rfl, cond_true] at hB
            replace hB : Bxs G w w0.heap.size ([] ++ (Option.toList ((some (g3, 43, cs34))) ++ [])) ⟨((Option.toList (some (g3, 43, cs5))).map (·.1)), []⟩ := hB
            refine ⟨(((((((((Env.nil.put 0 (.slice (some ⟨g3, so4, none⟩) s.length cap2)).put 1 (.int .i64 0)).put 2 (.int .i64 (((n : Nat) : Int)))).put 3 (.func (.func ff) #[] cf.toArray)).put 8 (.int .i64 (((oi : Nat) : Int)))).put 9 (.int .i64 (((j : Nat) : Int)))).put 39 (.slice (some ⟨g3, so4, none⟩) s.length cap2)).put 41 (.int .i64 ((((j - 1) : Nat) : Int)))).put 50 (.agg x8.cells.toArray)), (((((((((hM.fr.add f0).add f1).add f2).add f3).add f8).add f9).add f39).add f41).add f50), ?_⟩
            clear hM hall htl
            obtain ⟨x35, hx36⟩ : ∃ y_, ((List.set wl j x14))[(j - 1)]? = some y_ := ⟨_, List.getElem?_eq_getElem (by have q := of_decide_eq_true h6; (try simp only [List.length_set]); omega)⟩
            refine wlVal (opIndexAddr rfl rfl slo33 (by have q := of_decide_eq_true h6; (try simp only [List.length_set]); omega)) rfl ?_
            refine wlStoreOw (α := Stand) (bl := []) (r := []) (vs := x8.cells) (off := 0) (y := x8) hC hB hO33 hx36 rfl (by show _ = so4 + _ * 34 + 0; omega) rfl sz43 rfl (by simp [Word.cells, Stand.cells, Wd.cells, Mark.cells]) (by simp [Word.cells, Stand.cells, Wd.cells, Mark.cells, Value.oneCell']) (Nat.le_refl _) (fun row h => by obtain rfl := h; exact whole_row (by simp) (by simp)) rfl ?_; intro cs37 w hC hB hO38
            refine wlNil ?_
            refine wcOf ?_
            refine wcRegion ?_
            refine wlVal (opMove rfl) rfl ?_
            refine wlVal (opDecr rfl rfl (Int.ofNat_lt.1 (of_decide_eq_true h7)) (is_sm hln hsm hj h6)) rfl ?_
            refine wlVal (opAssign rfl) rfl ?_
            refine wlRound ?_
            exact (IH1 ((j - 1), cs37, (List.set ((List.set wl j x14)) ((j - 1)) x8)) _ _ ⟨hC, hB, hO38, (by simp [hwl]), (by omega), ((is_go h7 hx9 hx15 h24).symm.trans hJ)⟩ (by have := of_decide_eq_true h6; have := of_decide_eq_true h7; have := of_decide_eq_true h24; simp; omega)).sub (fun _ ha => ((((((ha.start.cons ha (t := 0) rfl).cons ha (t := 1) rfl).cons ha (t := 2) rfl).cons ha (t := 3) rfl).cons ha (t := 8) rfl).cons ha (t := 9) rfl))

theorem pdq_ret (G0 : Gh) (w0 : World) (hw : Holds G0 w0) (vs : Value) (s : List Stand) (os : Option Bx) (hs : Ow G0 os 43 vs s) (hBs : Bxs G0 w0 w0.heap.size (Option.toList os) ((Option.toList os).map (·.1))) (n : Nat) (lim : Int) (ff : FuncId) (cf : List Value) (pf : Stand → Stand → Int) (kf : callOk Tryd.prog ff = true) (hf : ∀ (G : Gh) (w : World) (f_x0 : Stand) (f_x1 : Stand), GLe G0 G → Holds G w → RetS Tryd.prog ff ([Value.agg f_x0.cells.toArray, Value.agg f_x1.cells.toArray] ++ cf).toArray G w (.int .i64 (pf f_x0 f_x1))) (hpos : 0 < s.length) (hln : n = s.length) (hsm : s.length ≤ 12) :
    RetP Tryd.prog 52 #[vs, .int .i64 0, .int .i64 ((n : Nat) : Int), .int .i64 lim, .func (.func ff) #[] cf.toArray] G0 w0 ((Option.toList os).map (·.1)) (fun G o v => v = .tuple #[] ∧ Ow G o 43 vs ((isortG pf s))) := by
  have hC := Cx.reflM ((Option.toList os).map (·.1)) hw
  have hB : Bxs G0 w0 w0.heap.size ([] ++ (Option.toList os ++ [])) ((Option.toList os).map (·.1)) := by simpa using hBs
  obtain ⟨A1, cap2, rfl⟩ := hs.form
  refine callsOfN Tryd.func52 rfl _ Tryd.ntmps52 rfl _ (argsCons (argsCons (argsCons (argsCons (argsCons argsNil (t := 0) rfl) (t := 1) rfl) (t := 2) rfl) (t := 3) rfl) (t := 4) rfl) ?_; intro Q0 hQ hN
  refine wcSeq ?_
  refine wcRegion ?_
  refine wlVal (opAssign rfl) rfl ?_
  refine wlThen ?_
  refine wcSeq ?_
  refine wcRegion ?_
  refine wlVal (opAssign rfl) rfl ?_
  refine wlThen ?_
  refine wcBlock ?_
  refine wcLoop 64 ?_
  refine wrSucc ?_
  refine wcBlock ?_
  refine wcSeq ?_
  refine wcRegion ?_
  refine wlVal (opMove rfl) rfl ?_
  refine wlVal (opMove rfl) rfl ?_
  refine wlVal (opSub rfl rfl) rfl ?_
  refine wlVal (opAssign rfl) rfl ?_
  refine wlThen ?_
  refine wcSeq ?_
  refine wcSeq ?_
  refine wcRegion ?_
  refine wlVal (opMove rfl) rfl ?_
  refine wlVal (opLeq rfl rfl) rfl ?_
  refine wlThen ?_
  cases h3 : decide (IntKind.wrap .i64 (((n : Nat) : Int) - 0) ≤ 12)
  · skip
    exact (by have q := of_decide_eq_false h3; rw [Int.sub_zero, wrap_i64_nat (by omega)] at q; omega : False).elim
  · skip
    refine wcCondT rfl ?_
    refine wcSeq ?_
    refine wcRegion ?_
    refine wlVal (opMove rfl) rfl ?_
    refine wlVal (opMove rfl) rfl ?_
    refine wlVal (opMove rfl) rfl ?_
    refine wlVal (opMove rfl) rfl ?_
    refine wlCallP (bl := []) (o := os) (r := []) hC hB rfl co60 rfl rfl (isort_ret _ _ hC.holds _ s _ hs (Bxs.mine (bl := []) (r := []) hB) n _ _ pf kf (fun G w f_x0 f_x1 hg hw  => hf G w f_x0 f_x1 (fun b o h => hg b o (hC.gle b o h)) hw ) hpos hln hsm) ?_; rintro v7 G o4 w hg6 hk hC hB ⟨rfl, hO5⟩
    replace hB : Bxs G w w0.heap.size ([] ++ (Option.toList o4 ++ [])) ⟨((Option.toList os).map (·.1)), []⟩ := hB
    refine wlThen ?_
    refine wcRet ?_
    exact fun ac_ ha => hQ _ _ _ (results0 ha rfl ) ha.df (endP (bl := []) (o := o4) (r := []) hC hB ⟨rfl, hO5⟩)

theorem sort_ret (G0 : Gh) (w0 : World) (hw : Holds G0 w0) (vs : Value) (s : List Stand) (os : Option Bx) (hs : Ow G0 os 43 vs s) (hBs : Bxs G0 w0 w0.heap.size (Option.toList os) ((Option.toList os).map (·.1))) (ff : FuncId) (cf : List Value) (pf : Stand → Stand → Int) (kf : callOk Tryd.prog ff = true) (hf : ∀ (G : Gh) (w : World) (f_x0 : Stand) (f_x1 : Stand), GLe G0 G → Holds G w → RetS Tryd.prog ff ([Value.agg f_x0.cells.toArray, Value.agg f_x1.cells.toArray] ++ cf).toArray G w (.int .i64 (pf f_x0 f_x1))) (hpos : 0 < s.length) (hsm : s.length ≤ 12) :
    RetP Tryd.prog 37 #[vs, .func (.func ff) #[] cf.toArray] G0 w0 ((Option.toList os).map (·.1)) (fun G o v => v = .tuple #[] ∧ Ow G o 43 vs ((isortG pf s))) := by
  have hC := Cx.reflM ((Option.toList os).map (·.1)) hw
  have hB : Bxs G0 w0 w0.heap.size ([] ++ (Option.toList os ++ [])) ((Option.toList os).map (·.1)) := by simpa using hBs
  obtain ⟨A1, cap2, rfl⟩ := hs.form
  refine callsOfN Tryd.func37 rfl _ Tryd.ntmps37 rfl _ (argsCons (argsCons argsNil (t := 0) rfl) (t := 1) rfl) ?_; intro Q0 hQ hN
  refine wcSeq ?_
  refine wcRegion ?_
  refine wlVal (opMove rfl) rfl ?_
  refine wlVal (opLen rfl isl33) rfl ?_
  refine wlVal (opAssign rfl) rfl ?_
  refine wlThen ?_
  refine wcRegion ?_
  refine wlVal (opMove rfl) rfl ?_
  refine wlVal (opMove rfl) rfl ?_
  refine wlVal (opMove rfl) rfl ?_
  refine wlVal (opConvN rfl un3 ui88 (wrap_u64_nat (by omega))) rfl ?_
  refine wlCallS hC hB rfl co53 rfl rfl (len_ret _ _ hC.holds s.length hsm) ?_; intro w hk hC hB
  refine wlVal (opMove rfl) rfl ?_
  refine wlCallP (bl := []) (o := os) (r := []) hC hB rfl co52 rfl rfl (pdq_ret _ _ hC.holds _ s _ hs (Bxs.mine (bl := []) (r := []) hB) s.length ((((len8 s.length : Nat) : Int))) _ _ pf kf (fun G w f_x0 f_x1 hg hw  => hf G w f_x0 f_x1 (fun b o h => hg b o (hC.gle b o h)) hw ) hpos rfl hsm) ?_; rintro v6 G o3 w hg5 hk hC hB ⟨rfl, hO4⟩
  replace hB : Bxs G w w0.heap.size ([] ++ (Option.toList o3 ++ [])) ⟨((Option.toList os).map (·.1)), []⟩ := hB
  refine wlNil ?_
  exact fun ac_ ha => hN _ _ _ (results0 ha rfl) ha.df (endP (bl := []) (o := o3) (r := []) hC hB ⟨rfl, hO4⟩)

end Go.Proofs.YtljcgggflgbenaaDoor
