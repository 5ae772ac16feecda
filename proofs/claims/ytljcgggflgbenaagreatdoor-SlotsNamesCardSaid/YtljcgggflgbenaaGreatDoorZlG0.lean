/- What functions of the slots seat return, part 0. No condition. -/
import Derived.Test.YtljcgggflgbenaaGreatDoorGxZip
import Derived.Test.YtljcgggflgbenaaGreatDoorRows
set_option linter.all false
namespace Go.Proofs.YtljcgggflgbenaaGreatDoor
open Go Go.Gx Go.RowKit
structure Crew where
  faults : Int
  nodes : List Int
  deriving DecidableEq, Inhabited
instance : Rp Crew := ⟨2, fun G cs x => ∃ v0, cs = [.int .i64 x.faults, v0] ∧ Sl G v0 x.nodes, fun ⟨_, h, _⟩ => by rw [h]; simp, fun ⟨v0, h, hv0⟩ => by obtain ⟨Av0, cv0, rfl⟩ := hv0.form; rw [h]; simp [Value.oneCell'], fun hg ⟨v0, h, hv0⟩ => ⟨v0, h, hv0.mono hg⟩⟩
theorem Crew.opIs {G : Gh} {cs : List Value} {x : Crew} (h : Rp.Is G cs x) : ∃ v0, cs = [.int .i64 x.faults, v0] ∧ Sl G v0 x.nodes := h
theorem Crew.mkIs {G : Gh} {x : Crew} {v0 : Value} (hv0 : Sl G v0 x.nodes) : Rp.Is G [.int .i64 x.faults, v0] x := ⟨_, rfl, hv0⟩
structure Mark where
  seq : Int
  dig : Dig
  deriving DecidableEq, Inhabited
def Mark.cells (x : Mark) : List Value := (.int .i64 x.seq :: (x.dig.cells ++ []))
@[simp] theorem Mark.length_cells (x : Mark) : x.cells.length = 33 := by simp [Mark.cells]
instance : Rp Mark := ⟨33, fun _ cs x => cs = x.cells, fun h => by rw [h]; exact Mark.length_cells _, fun h => by rw [h]; intro u hu; simp only [Mark.cells, List.mem_cons, List.mem_append, List.not_mem_nil, or_false] at hu; rcases hu with rfl | hu <;> first | rfl | exact mem_cells _ _ hu, fun _ h => h⟩
structure Stand where
  seq : Int
  dig : Dig
  view : Int
  deriving DecidableEq, Inhabited
def Stand.cells (x : Stand) : List Value := (.int .i64 x.seq :: (x.dig.cells ++ (.int .i64 x.view :: [])))
@[simp] theorem Stand.length_cells (x : Stand) : x.cells.length = 34 := by simp [Stand.cells]
instance : Rp Stand := ⟨34, fun _ cs x => cs = x.cells, fun h => by rw [h]; exact Stand.length_cells _, fun h => by rw [h]; intro u hu; simp only [Stand.cells, List.mem_cons, List.mem_append, List.not_mem_nil, or_false] at hu; rcases hu with rfl | hu | rfl <;> first | rfl | exact mem_cells _ _ hu, fun _ h => h⟩
structure Wd where
  view : Int
  dig : Dig
  deriving DecidableEq, Inhabited
def Wd.cells (x : Wd) : List Value := (.int .i64 x.view :: (x.dig.cells ++ []))
@[simp] theorem Wd.length_cells (x : Wd) : x.cells.length = 33 := by simp [Wd.cells]
instance : Rp Wd := ⟨33, fun _ cs x => cs = x.cells, fun h => by rw [h]; exact Wd.length_cells _, fun h => by rw [h]; intro u hu; simp only [Wd.cells, List.mem_cons, List.mem_append, List.not_mem_nil, or_false] at hu; rcases hu with rfl | hu <;> first | rfl | exact mem_cells _ _ hu, fun _ h => h⟩
structure Word where
  node : Int
  view : Int
  seq : Int
  commits : Bool
  b : UInt8
  deriving DecidableEq, Inhabited
def Word.cells (x : Word) : List Value := [.int .i64 x.node, .int .i64 x.view, .int .i64 x.seq, .bool x.commits, .int .u8 (x.b.toNat : Int)]
@[simp] theorem Word.length_cells (x : Word) : x.cells.length = 5 := by simp [Word.cells]
instance : Rp Word := ⟨5, fun _ cs x => cs = x.cells, fun h => by rw [h]; exact Word.length_cells _, fun h => by rw [h]; intro u hu; simp only [Word.cells, List.mem_cons, List.mem_append, List.not_mem_nil, or_false] at hu; rcases hu with rfl | rfl | rfl | rfl | rfl <;> first | rfl | exact mem_cells _ _ hu, fun _ h => h⟩
structure RVt where
  has : Bool
  view : Int
  dig : Dig
  deriving DecidableEq, Inhabited
def RVt.cells (x : RVt) : List Value := (.bool x.has :: (.int .i64 x.view :: (x.dig.cells ++ [])))
theorem cl_ : (∀ x : Stand, x.cells = (.int .i64 x.seq :: (x.dig.cells ++ (.int .i64 x.view :: [])))) ∧ (∀ x : RVt, x.cells = (.bool x.has :: (.int .i64 x.view :: (x.dig.cells ++ [])))) ∧ (∀ x : Wd, x.cells = (.int .i64 x.view :: (x.dig.cells ++ []))) ∧ (∀ x : Mark, x.cells = (.int .i64 x.seq :: (x.dig.cells ++ []))) := ⟨fun _ => rfl, fun _ => rfl, fun _ => rfl, fun _ => rfl⟩
theorem B_ {P : Program} {N : Nat} {e : Env} {w : World} {d : Option Tmp} {ty : TypeId} {pos : String} {af : Array Edge} {gd : Option (Nat × Bool)} {t : Nat} {pl : List (Nat × Nat)} {ps : List (Nat × Operand)} {vs : List Value} {rows : List (Nat × List Value)} {z cs : List Value} (hs : structOk P t pl = true) (hz : (P.info? t).bind (fun i => i.zero.map Value.cells) = some z.toArray)
    (hvs : opvs e (ps.map (·.2)) = some vs) (hr : ((ps.map (·.1)).zip vs).map (fun p => (p.1, p.2.cells.toList)) = rows) (hb : buildCells pl z rows = some cs := by first | (simp [buildCells, Value.cells]; done) | simp [buildCells, Value.cells, cl_]) :
    OpVal P N e w ⟨d, .build t ps.toArray, ty, pos, af, gd⟩ (.agg cs.toArray) := opBuild hs hz hvs hr hb
@[simp] theorem RVt.length_cells (x : RVt) : x.cells.length = 34 := by simp [RVt.cells]
instance : Rp RVt := ⟨34, fun _ cs x => cs = x.cells, fun h => by rw [h]; exact RVt.length_cells _, fun h => by rw [h]; intro u hu; simp only [RVt.cells, List.mem_cons, List.mem_append, List.not_mem_nil, or_false] at hu; rcases hu with rfl | rfl | hu <;> first | rfl | exact mem_cells _ _ hu, fun _ h => h⟩
structure RSlot where
  last : RVt
  pre : List RVt
  com : List RVt
  p : RVt
  q : List Stand
  deriving DecidableEq, Inhabited
instance : Rp RSlot := ⟨71, fun G cs x => ∃ v0 v1 v2, cs = (.bool x.last.has :: (.int .i64 x.last.view :: (x.last.dig.cells ++ (v0 :: (v1 :: (.bool x.p.has :: (.int .i64 x.p.view :: (x.p.dig.cells ++ (v2 :: []))))))))) ∧ Sl G v0 x.pre ∧ Sl G v1 x.com ∧ Sl G v2 x.q, fun ⟨_, _, _, h, _⟩ => by rw [h]; simp, fun ⟨v0, v1, v2, h, hv0, hv1, hv2⟩ => by obtain ⟨Av0, cv0, rfl⟩ := hv0.form; obtain ⟨Av1, cv1, rfl⟩ := hv1.form; obtain ⟨Av2, cv2, rfl⟩ := hv2.form; rw [h]; intro u hu; simp only [List.mem_cons, List.mem_append, List.not_mem_nil, or_false] at hu; rcases hu with rfl | rfl | hu | rfl | rfl | rfl | rfl | hu | rfl <;> first | rfl | exact mem_cells _ _ hu, fun hg ⟨v0, v1, v2, h, hv0, hv1, hv2⟩ => ⟨v0, v1, v2, h, hv0.mono hg, hv1.mono hg, hv2.mono hg⟩⟩
theorem RSlot.opIs {G : Gh} {cs : List Value} {x : RSlot} (h : Rp.Is G cs x) : ∃ v0 v1 v2, cs = (.bool x.last.has :: (.int .i64 x.last.view :: (x.last.dig.cells ++ (v0 :: (v1 :: (.bool x.p.has :: (.int .i64 x.p.view :: (x.p.dig.cells ++ (v2 :: []))))))))) ∧ Sl G v0 x.pre ∧ Sl G v1 x.com ∧ Sl G v2 x.q := h
theorem RSlot.mkIs {G : Gh} {x : RSlot} {v0 v1 v2 : Value} (hv0 : Sl G v0 x.pre) (hv1 : Sl G v1 x.com) (hv2 : Sl G v2 x.q) : Rp.Is G (.bool x.last.has :: (.int .i64 x.last.view :: (x.last.dig.cells ++ (v0 :: (v1 :: (.bool x.p.has :: (.int .i64 x.p.view :: (x.p.dig.cells ++ (v2 :: []))))))))) x := ⟨_, _, _, rfl, hv0, hv1, hv2⟩
structure Do where
  kind : Int
  node : Int
  view : Int
  seq : Int
  dig : Dig
  pp : List Stand
  qq : List Stand
  deriving DecidableEq, Inhabited
instance : Rp Do := ⟨38, fun G cs x => ∃ v0 v1, cs = (.int .i64 x.kind :: (.int .i64 x.node :: (.int .i64 x.view :: (.int .i64 x.seq :: (x.dig.cells ++ (v0 :: (v1 :: []))))))) ∧ Sl G v0 x.pp ∧ Sl G v1 x.qq, fun ⟨_, _, h, _⟩ => by rw [h]; simp, fun ⟨v0, v1, h, hv0, hv1⟩ => by obtain ⟨Av0, cv0, rfl⟩ := hv0.form; obtain ⟨Av1, cv1, rfl⟩ := hv1.form; rw [h]; intro u hu; simp only [List.mem_cons, List.mem_append, List.not_mem_nil, or_false] at hu; rcases hu with rfl | rfl | rfl | rfl | hu | rfl | rfl <;> first | rfl | exact mem_cells _ _ hu, fun hg ⟨v0, v1, h, hv0, hv1⟩ => ⟨v0, v1, h, hv0.mono hg, hv1.mono hg⟩⟩
theorem Do.opIs {G : Gh} {cs : List Value} {x : Do} (h : Rp.Is G cs x) : ∃ v0 v1, cs = (.int .i64 x.kind :: (.int .i64 x.node :: (.int .i64 x.view :: (.int .i64 x.seq :: (x.dig.cells ++ (v0 :: (v1 :: []))))))) ∧ Sl G v0 x.pp ∧ Sl G v1 x.qq := h
theorem Do.mkIs {G : Gh} {x : Do} {v0 v1 : Value} (hv0 : Sl G v0 x.pp) (hv1 : Sl G v1 x.qq) : Rp.Is G (.int .i64 x.kind :: (.int .i64 x.node :: (.int .i64 x.view :: (.int .i64 x.seq :: (x.dig.cells ++ (v0 :: (v1 :: []))))))) x := ⟨_, _, rfl, hv0, hv1⟩
def nodeB (n : Int) : Bool := decide (1 ≤ n) && decide (n ≤ 28)
def cmpI (x y : Int) : Int := if x < y then -1 else if y < x then 1 else 0
def risesB : Int → List Int → Bool
  | _, [] => true
  | l, x :: r => bif decide (x ≤ l) || !nodeB x then false else risesB x r
def check (c : Crew) : Int := bif decide (c.faults < 0) || (decide (2 < c.faults) || ((c.nodes.length : Int) != IntKind.wrap .i64 (IntKind.wrap .i64 (3 * c.faults) + 1))) then 110 else bif risesB 0 c.nodes then 0 else 110
def bsGo (xs : List Int) (t : Int) : Nat → Nat → Nat → Nat
  | 0, i, _ => i
  | f + 1, i, j => bif decide (i < j) then (bif decide (xs.getD ((i + j) / 2) 0 < t) then bsGo xs t f ((i + j) / 2 + 1) j else bsGo xs t f i ((i + j) / 2)) else i
def bsI (xs : List Int) (t : Int) : Nat := bsGo xs t xs.length 0 xs.length
def bsF (xs : List Int) (t : Int) : Bool := decide (bsI xs t < xs.length) && (xs.getD (bsI xs t) 0 == t)
theorem bsGo_done (xs : List Int) (t : Int) (f i j : Nat) (h : ¬ i < j) : bsGo xs t f i j = i := by
  cases f with
  | zero => rfl
  | succ f => simp [bsGo, h]
theorem bsGo_step (xs : List Int) (t : Int) (f i j : Nat) (h : i < j) (hf : j ≤ i + f) {x : Int} (hx : xs[(i + j) / 2]? = some x) :
    bsGo xs t f i j = bif decide (x < t) then bsGo xs t (f - 1) ((i + j) / 2 + 1) j else bsGo xs t (f - 1) i ((i + j) / 2) := by
  cases f with
  | zero => omega
  | succ f => simp [bsGo, h, hx]
def orI : List Int → Int
  | [] => 0
  | x :: r => bif x != 0 then x else orI r
def idxG {α : Type} (p : α → Bool) : List α → Nat → Int
  | [], _ => -1
  | x :: r, k => bif p x then (k : Int) else idxG p r (k + 1)
def has (c : Crew) (n : Int) : Bool := (check c == 0) && bsF c.nodes n
theorem drop_getD {α : Type} [Inhabited α] (l : List α) {d : α} (k : Nat) (h : k < l.length) : l.drop k = l.getD k d :: l.drop (k + 1) := by
  rw [List.drop_eq_getElem_cons h]; simp [List.getD_eq_getElem?_getD, h]
def lessB : List UInt8 → List UInt8 → Bool
  | x :: a, y :: b => bif ((x.toNat : Int)) != ((y.toNat : Int)) then decide ((x.toNat : Int) < (y.toNat : Int)) else lessB a b
  | _, _ => false
def prevI (l : List Int) : Nat → Int
  | 0 => 0
  | k + 1 => l.getD k 0
theorem prevI_0 {l : List Int} : prevI l 0 = 0 := rfl
theorem prevI_succ {l : List Int} {k : Nat} {x : Int} (h : l[k]? = some x) : prevI l (k + 1) = x := by simp [prevI, h]
theorem prevI_of {l : List Int} {k : Nat} {x : Int} (h0 : 0 < k) (h : l[k - 1]? = some x) : prevI l k = x := by
  cases k with
  | zero => omega
  | succ k => simpa [prevI] using congrArg (·.getD 0) h
theorem nodeB_pos {x : Int} (h : nodeB x = true) : decide (x ≤ 0) = false := by
  simp [nodeB] at h; simp; omega
def most (c : Crew) : Int := bif check c != 0 then 0 else IntKind.wrap .i64 (IntKind.wrap .i64 (2 * c.faults) + 1)
def bringI (n m : Int) : Int := bif decide (m ≤ 0) then 0 else bif decide (Int.tmod n m < 0) then IntKind.wrap .i64 (Int.tmod n m + m) else Int.tmod n m
def crewI (f : Int) : Crew := ⟨f, (List.range (3 * f.toNat + 1)).map (fun i => ((i + 1 : Nat) : Int))⟩
def digN (x : UInt8) : Dig := ⟨x :: 1 :: List.replicate 30 0, rfl⟩
def viewB (v : Int) : Bool := decide (0 ≤ v) && decide (v ≤ 1048576)
def lowB (v : Int) : Bool := decide (0 ≤ v) && decide (v ≤ 9007199254740983)
def isJ (p : Stand → Stand → Int) : Nat → List Stand → List Stand
  | 0, l => l
  | j + 1, l => bif decide (p (l.getD (j + 1) default) (l.getD j default) < 0) then isJ p j ((l.set (j + 1) (l.getD j default)).set j (l.getD (j + 1) default)) else l
def isI (p : Stand → Stand → Int) : Nat → Nat → List Stand → List Stand
  | 0, _, l => l
  | f + 1, i, l => isI p f (i + 1) (isJ p i l)
def isortG (p : Stand → Stand → Int) (l : List Stand) : List Stand := isI p (l.length - 1) 1 l
def len8 (x : Nat) : Nat := bif x == 0 then 0 else bif decide (x < 2) then 1 else bif decide (x < 4) then 2 else bif decide (x < 8) then 3 else 4
theorem len8_le (x : Nat) : len8 x ≤ 4 := by unfold len8; cases x == 0 <;> cases decide (x < 2) <;> cases decide (x < 4) <;> cases decide (x < 8) <;> decide
theorem len8_lt (x : Nat) : len8 x < 9223372036854775808 := by have := len8_le x; omega
theorem len8_fin (x : Nat) : IntKind.wrap .i64 (0 + ((len8 x : Nat) : Int)) = ((len8 x : Nat) : Int) := by
  have := len8_le x; rw [Int.zero_add]; exact wrap_i64_nat (by omega)
theorem len8_at {s : ByteArray} {x : Nat} (hs : s.data.toList.take 13 = [0, 1, 2, 2, 3, 3, 3, 3, 4, 4, 4, 4, 4]) (h : x ≤ 12) : ∃ u, s[x]? = some u ∧ u.toNat = len8 x := by
  have h1 : ∀ i : Fin 13, ∃ u, ([0, 1, 2, 2, 3, 3, 3, 3, 4, 4, 4, 4, 4] : List UInt8)[i.1]? = some u ∧ u.toNat = len8 i.1 := by
    intro i; refine ⟨([0, 1, 2, 2, 3, 3, 3, 3, 4, 4, 4, 4, 4] : List UInt8)[i.1]'(by simp), ?_, ?_⟩
    · simp
    · revert i; decide
  obtain ⟨u, h2, h3⟩ := h1 ⟨x, by omega⟩
  refine ⟨u, ?_, h3⟩
  have h4 : s.data.toList[x]? = some u := by
    have := h2; rw [← hs, List.getElem?_take] at this
    simpa [show x < 13 by omega] using this
  have hl := (List.getElem?_eq_some_iff.1 h4).1
  have hlt : x < s.size := by simpa using hl
  rw [getElem?_pos s x hlt]
  congr 1
  have := (List.getElem?_eq_some_iff.1 h4).2
  have h5 : s.data[x]'hlt = u := by simpa using this
  exact h5
theorem is_stop0 {p : Stand → Stand → Int} {j : Nat} {l : List Stand} (h : decide (0 < ((j : Nat) : Int)) = false) : isJ p j l = l := by
  cases j with
  | zero => rfl
  | succ j => have := of_decide_eq_false h; omega
theorem is_step {p : Stand → Stand → Int} {j : Nat} {l : List Stand} {x y : Stand} (h : decide (0 < ((j : Nat) : Int)) = true) (hx : l[j]? = some x) (hy : l[j - 1]? = some y) :
    isJ p j l = bif decide (p x y < 0) then isJ p (j - 1) ((l.set j y).set (j - 1) x) else l := by
  cases j with
  | zero => have := of_decide_eq_true h; omega
  | succ j =>
    have e1 : l.getD (j + 1) default = x := by simp [hx]
    have e2 : l.getD j default = y := by simp at hy; simp [hy]
    simp only [isJ, e1, e2, Nat.add_sub_cancel]
theorem is_stop {p : Stand → Stand → Int} {j : Nat} {l : List Stand} {x y : Stand} (h : decide (0 < ((j : Nat) : Int)) = true) (hx : l[j]? = some x) (hy : l[j - 1]? = some y) (hp : decide (p x y < 0) = false) : isJ p j l = l := by
  rw [is_step h hx hy, hp]; rfl
theorem is_go {p : Stand → Stand → Int} {j : Nat} {l : List Stand} {x y : Stand} (h : decide (0 < ((j : Nat) : Int)) = true) (hx : l[j]? = some x) (hy : l[j - 1]? = some y) (hp : decide (p x y < 0) = true) : isJ p j l = isJ p (j - 1) ((l.set j y).set (j - 1) x) := by
  rw [is_step h hx hy, hp]; rfl
theorem is_out {p : Stand → Stand → Int} {n i j : Nat} {u l s : List Stand} (hI : isI p (n - i) i u = isortG p s) (hi : decide (i < n) = true) (hJ : isJ p j l = isJ p i u) (hs : isJ p j l = l) : isI p (n - (i + 1)) (i + 1) l = isortG p s := by
  have hi := of_decide_eq_true hi
  rw [← hI, show n - i = (n - (i + 1)) + 1 from by omega]; simp only [isI]; rw [← hJ, hs]
theorem is_end {p : Stand → Stand → Int} {n i : Nat} {u s : List Stand} (hI : isI p (n - i) i u = isortG p s) (hi : decide (i < n) = false) : u = isortG p s := by
  have hi := of_decide_eq_false hi
  rw [← hI, show n - i = 0 from by omega]; rfl
theorem is_sm {n j i : Nat} {s : List Stand} (hn : n = s.length) (hsm : s.length ≤ 12) (hj : j ≤ i) (hi : decide (i < n) = true) : j < 4611686018427387904 := by
  have := of_decide_eq_true hi; omega
def ordS (a b : Stand) : Int := orI [cmpI a.seq b.seq, cmpI a.view b.view, cmpB a.dig.l b.dig.l]
theorem co99 : callOk Tryz.prog 99 = true := by kernel_rfl
theorem fo24_0 : fieldOk Tryz.prog 24 0 0 = true := by kernel_rfl
theorem one3 : oneOk Tryz.prog 3 = true := by kernel_rfl
theorem fo24_1 : fieldOk Tryz.prog 24 1 1 = true := by kernel_rfl
theorem one22 : oneOk Tryz.prog 22 = true := by kernel_rfl
theorem isl22 : isSlice Tryz.prog 22 = true := by kernel_rfl
theorem slo22 : sliceOk Tryz.prog 22 3 1 = true := by kernel_rfl
theorem co63 : callOk Tryz.prog 63 = true := by kernel_rfl
theorem co87 : callOk Tryz.prog 87 = true := by kernel_rfl
theorem un3 : (Tryz.prog.underlying 3).isSome = true := by kernel_rfl
theorem ui106 : Tryz.prog.underlying 106 = some (.int .u64) := by kernel_rfl
theorem un106 : (Tryz.prog.underlying 106).isSome = true := by kernel_rfl
theorem ui3 : Tryz.prog.underlying 3 = some (.int .i64) := by kernel_rfl
theorem co86 : callOk Tryz.prog 86 = true := by kernel_rfl
theorem co64 : callOk Tryz.prog 64 = true := by kernel_rfl
theorem row24 : rowOk Tryz.prog 24 2 = true := by kernel_rfl
theorem co23 : callOk Tryz.prog 23 = true := by kernel_rfl
theorem ext100b : Tryz.f100.body.isNone = true := by kernel_rfl
theorem ext100n : (Tryz.f100.name == "runtime.NumGoroutine") = false := by kernel_rfl
theorem ext100x : (Extern.findNext Tryz.f100).isNone = true := by kernel_rfl
theorem ext100f : Extern.find Tryz.f100 = some Extern.BytealgCompare.compare := by kernel_rfl
theorem zero24 : (Tryz.prog.info? 24).bind (fun i => i.zero.map Value.cells) = some ([(.int .i64 0), (.slice none 0 0)] : List Value).toArray := by kernel_rfl
theorem so24 : structOk Tryz.prog 24 [(0, 1), (1, 1)] = true := by kernel_rfl
theorem sz24 : (Tryz.prog.info? 24).map (·.size) = some 2 := by kernel_rfl
theorem elo22 : elemOk Tryz.prog 22 3 1 8 = true := by kernel_rfl
theorem sz22 : (Tryz.prog.info? 22).map (·.size) = some 1 := by kernel_rfl
theorem zero37 : (Tryz.prog.info? 37).bind (fun i => i.zero.map Value.cells) = some (Dig.zero.cells : List Value).toArray := by kernel_rfl
theorem ar37 : arrOk Tryz.prog 37 32 5 1 = true := by kernel_rfl
theorem sz37 : (Tryz.prog.info? 37).map (·.size) = some 32 := by kernel_rfl
theorem row37 : rowOk Tryz.prog 37 32 = true := by kernel_rfl
theorem fmix : Tryz.prog.follows .mixedOrders = true := by kernel_rfl
theorem fo44_0 : fieldOk Tryz.prog 44 0 0 = true := by kernel_rfl
theorem fo44_2 : fieldOk Tryz.prog 44 2 33 = true := by kernel_rfl
theorem fo44_1 : fieldOk Tryz.prog 44 1 1 = true := by kernel_rfl
theorem by37 : bytes32 Tryz.prog 37 = true := by kernel_rfl
theorem co83 : callOk Tryz.prog 83 = true := by kernel_rfl
theorem co84 : callOk Tryz.prog 84 = true := by kernel_rfl
theorem co82 : callOk Tryz.prog 82 = true := by kernel_rfl
theorem un127 : (Tryz.prog.underlying 127).isSome = true := by kernel_rfl
theorem ui5 : Tryz.prog.underlying 5 = some (.int .u8) := by kernel_rfl
theorem st9 : Tryz.prog.underlying 9 = some .string := by kernel_rfl
theorem un5 : (Tryz.prog.underlying 5).isSome = true := by kernel_rfl
theorem co98 : callOk Tryz.prog 98 = true := by kernel_rfl
theorem slo38 : sliceOk Tryz.prog 38 44 34 = true := by kernel_rfl
theorem row44 : rowOk Tryz.prog 44 34 = true := by kernel_rfl
theorem sz44 : (Tryz.prog.info? 44).map (·.size) = some 34 := by kernel_rfl
theorem co89 : callOk Tryz.prog 89 = true := by kernel_rfl
theorem isl38 : isSlice Tryz.prog 38 = true := by kernel_rfl
theorem co81 : callOk Tryz.prog 81 = true := by kernel_rfl
theorem co80 : callOk Tryz.prog 80 = true := by kernel_rfl
theorem node_ret (G0 : Gh) (w0 : World) (hw : Holds G0 w0) (n : Int) :
  RetS Tryz.prog 63 #[.int .i64 n] G0 w0 (.bool (nodeB n)) := by
 have hC := Cx.refl hw
 have hB : Bxs G0 w0 w0.heap.size [] := Bxs.nil _ _ _
 refine callsOf Tryz.func63 rfl _ Tryz.ntmps63 rfl _ (argsCons argsNil (t := 0) rfl) ?_; intro Q0 hQ
 refine wcSeq <| wcRegion <| A_ rfl ?_
 refine wlThen (wcSeq (wcRegion ?_))
 refine M_ rfl <| V_ (opGeq rfl rfl) <| M_ rfl ?_
 cases h1 : decide (1 ≤ n)
 ·
  refine wlOff rfl rfl rfl rfl <| wlOff rfl rfl rfl rfl <| V_ (opPickF rfl rfl) <| A_ rfl <| wlThen <| wcRet ?_
  exact r1_ hQ rfl rfl (endS hC hw (by simp [nodeB, *]))
 ·
  refine wlOn rfl rfl <| M_ rfl <| wlOn rfl rfl <| V_ (opLeq rfl rfl) <| V_ (opPickT rfl rfl) <| A_ rfl <| wlThen <| wcRet ?_
  exact r1_ hQ rfl rfl (endS hC hw (by simp [nodeB, *]))

theorem isNaN_ret (G0 : Gh) (w0 : World) (hw : Holds G0 w0) (n : Int) :
  RetS Tryz.prog 87 #[.int .i64 n] G0 w0 (.bool false) := by
 have hC := Cx.refl hw
 have hB : Bxs G0 w0 w0.heap.size [] := Bxs.nil _ _ _
 refine callsOf Tryz.func87 rfl _ Tryz.ntmps87 rfl _ (argsCons argsNil (t := 0) rfl) ?_; intro Q0 hQ
 refine wcSeq <| wcRegion <| A_ rfl ?_
 refine wlThen (wcSeq (wcRegion ?_))
 refine M_ rfl <| M_ rfl <| V_ (opNeq rfl rfl) <| A_ rfl <| wlThen <| wcRet ?_
 exact r1_ hQ rfl rfl (endS hC hw (by simp))

theorem isNaN2_ret (G0 : Gh) (w0 : World) (hw : Holds G0 w0) (n : Int) :
  RetS Tryz.prog 99 #[.int .i64 n] G0 w0 (.bool false) := by
 have hC := Cx.refl hw
 have hB : Bxs G0 w0 w0.heap.size [] := Bxs.nil _ _ _
 refine callsOf Tryz.func99 rfl _ Tryz.ntmps99 rfl _ (argsCons argsNil (t := 0) rfl) ?_; intro Q0 hQ
 refine wcSeq <| wcRegion <| A_ rfl ?_
 refine wlThen (wcSeq (wcRegion ?_))
 refine M_ rfl <| M_ rfl <| V_ (opNeq rfl rfl) <| A_ rfl <| wlThen <| wcRet ?_
 exact r1_ hQ rfl rfl (endS hC hw (by simp))

theorem less_ret (G0 : Gh) (w0 : World) (hw : Holds G0 w0) (x : Int) (y : Int) :
  RetS Tryz.prog 86 #[.int .i64 x, .int .i64 y] G0 w0 (.bool (decide (x < y))) := by
 have hC := Cx.refl hw
 have hB : Bxs G0 w0 w0.heap.size [] := Bxs.nil _ _ _
 refine callsOf Tryz.func86 rfl _ Tryz.ntmps86 rfl _ (argsCons (argsCons argsNil (t := 0) rfl) (t := 1) rfl) ?_; intro Q0 hQ
 refine wcSeq <| wcRegion <| A_ rfl ?_
 refine wlThen (wcSeq (wcRegion ?_))
 refine M_ rfl ?_
 refine wlCallS hC hB rfl co99 rfl rfl (isNaN2_ret _ _ hC.holds x) ?_; intro w hk hC hB
 refine M_ rfl <| wlOff rfl rfl rfl rfl <| wlOff rfl rfl rfl rfl <| wlOff rfl rfl rfl rfl <| V_ (opPickF rfl rfl) <| M_ rfl <| wlOn rfl rfl <| M_ rfl <| wlOn rfl rfl <| M_ rfl <| wlOn rfl rfl <| V_ (opLss rfl rfl) <| V_ (opPickF rfl rfl) <| A_ rfl <| wlThen <| wcRet ?_
 exact r1_ hQ rfl rfl (endS hC hw (by simp [*]))

theorem compare_ret (G0 : Gh) (w0 : World) (hw : Holds G0 w0) (x : Int) (y : Int) :
  RetS Tryz.prog 83 #[.int .i64 x, .int .i64 y] G0 w0 (.int .i64 (cmpI x y)) := by
 have hC := Cx.refl hw
 have hB : Bxs G0 w0 w0.heap.size [] := Bxs.nil _ _ _
 refine callsOf Tryz.func83 rfl _ Tryz.ntmps83 rfl _ (argsCons (argsCons argsNil (t := 0) rfl) (t := 1) rfl) ?_; intro Q0 hQ
 refine wcSeq <| wcRegion <| A_ rfl ?_
 refine wlThen (wcSeq (wcRegion ?_))
 refine M_ rfl ?_
 refine wlCallS hC hB rfl co99 rfl rfl (isNaN2_ret _ _ hC.holds x) ?_; intro w hk hC hB
 refine A_ rfl ?_
 refine wlThen (wcSeq (wcRegion ?_))
 refine M_ rfl ?_
 refine wlCallS hC hB rfl co99 rfl rfl (isNaN2_ret _ _ hC.holds y) ?_; intro w hk hC hB
 refine A_ rfl ?_
 refine wlThen (wcSeq (wcSeq (wcRegion ?_)))
 refine M_ rfl <| wlThen <| wcCondF rfl <| wcSkip <| wcOf ?_
 refine wcSeq (wcSeq (wcRegion ?_))
 refine M_ rfl <| wlThen <| wcCondF rfl <| wcSkip <| wcOf ?_
 refine wcSeq (wcSeq (wcRegion ?_))
 refine M_ rfl <| M_ rfl <| V_ (opLss rfl rfl) <| wlThen ?_
 cases h1 : decide (x < y)
 ·
  refine wcCondF rfl <| wcSkip <| wcOf ?_
  refine wcSeq (wcSeq (wcRegion ?_))
  refine M_ rfl <| M_ rfl <| V_ (opGtr rfl rfl) <| wlThen ?_
  cases h2 : decide (y < x)
  ·
   refine wcCondF rfl <| wcSkip <| wcOf <| wcSeq <| wcRegion <| A_ rfl <| wlThen <| wcRet ?_
   exact r1_ hQ rfl rfl (endS hC hw (by first | (simp_all [cmpI]; done) | (simp at *; unfold cmpI; (repeat split) <;> omega)))
  ·
   refine wcCondT rfl <| wcSeq <| wcRegion <| A_ rfl <| wlThen <| wcRet ?_
   exact r1_ hQ rfl rfl (endS hC hw (by first | (simp_all [cmpI]; done) | (simp at *; unfold cmpI; (repeat split) <;> omega)))
 ·
  refine wcCondT rfl <| wcSeq <| wcRegion <| A_ rfl <| wlThen <| wcRet ?_
  exact r1_ hQ rfl rfl (endS hC hw (by first | (simp_all [cmpI]; done) | (simp at *; unfold cmpI; (repeat split) <;> omega)))

theorem check_ret (G0 : Gh) (w0 : World) (hw : Holds G0 w0) (csc : List Value) (c : Crew) (hc : Rp.Is G0 csc c) :
  RetS Tryz.prog 23 #[.agg csc.toArray] G0 w0 (.int .i64 (check c)) := by
 have hC := Cx.refl hw
 have hB : Bxs G0 w0 w0.heap.size [] := Bxs.nil _ _ _
 obtain ⟨v1, rfl, hs2⟩ := Crew.opIs hc
 obtain ⟨A3, cap4, rfl⟩ := hs2.form
 refine callsOf Tryz.func23 rfl _ Tryz.ntmps23 rfl _ (argsCons argsNil (t := 0) rfl) ?_; intro Q0 hQ
 refine wcSeq <| wcRegion ?_
 refine wlBox (cs := [(.int .i64 c.faults), (.slice A3 c.nodes.length cap4)]) hC hB rfl rfl rfl ?_; intro b5 w hk hC hB
 refine A_ rfl ?_
 refine wlThen (wcSeq (wcSeq (wcRegion ?_)))
 refine V_ (opFieldAddr rfl fo24_0) <| V_ (opLoadOne (v := (.int .i64 c.faults)) rfl (hB.cell (i := 0) rfl rfl) one3) <| V_ (opLss rfl rfl) <| M_ rfl ?_
 cases h6 : decide (c.faults < 0)
 ·
  refine wlOn rfl rfl <| V_ (opFieldAddr rfl fo24_0) <| wlOn rfl rfl <| V_ (opLoadOne (v := (.int .i64 c.faults)) rfl (hB.cell (i := 0) rfl rfl) one3) <| wlOn rfl rfl <| V_ (opGtr rfl rfl) <| V_ (opPickF rfl rfl) <| M_ rfl ?_
  cases h7 : decide (2 < c.faults)
  ·
   refine wlOn rfl rfl <| V_ (opFieldAddr rfl fo24_1) <| wlOn rfl rfl <| V_ (opLoadOne (v := (.slice A3 c.nodes.length cap4)) rfl (hB.cell (i := 0) rfl rfl) one22) <| wlOn rfl rfl <| V_ (opLen rfl isl22) <| wlOn rfl rfl <| V_ (opFieldAddr rfl fo24_0) <| wlOn rfl rfl <| V_ (opLoadOne (v := (.int .i64 c.faults)) rfl (hB.cell (i := 0) rfl rfl) one3) <| wlOn rfl rfl <| V_ (opMul rfl rfl) <| wlOn rfl rfl <| V_ (opAdd rfl rfl) <| wlOn rfl rfl <| V_ (opNeq rfl rfl) <| V_ (opPickF rfl rfl) <| wlThen ?_
   cases h8 : (((c.nodes.length : Nat) : Int)) != (IntKind.wrap .i64 (IntKind.wrap .i64 (3 * c.faults) + 1))
   ·
    refine wcCondF rfl <| wcSkip <| wcOf <| wcSeq <| wcRegion <| A_ rfl ?_
    refine wlThen (wcSeq (wcSeq (wcRegion ?_)))
    refine V_ (opFieldAddr rfl fo24_1) <| V_ (opLoadOne (v := (.slice A3 c.nodes.length cap4)) rfl (hB.cell (i := 0) rfl rfl) one22) <| V_ (opLen rfl isl22) <| M_ rfl <| wlThen <| wcBlock ?_
    refine WC.sub (wrInd (ι := Nat × Int) (fun i => match i with | (k, last) => c.nodes.length - k) (fun i G w => match i with | (k, last) => Cx w0 G0 G w ∧ Bxs G w w0.heap.size [(b5, 24, [(.int .i64 c.faults), (.slice A3 c.nodes.length cap4)])] ∧ Sl G (.slice A3 c.nodes.length cap4) c.nodes ∧ risesB last (c.nodes.drop k) = risesB 0 c.nodes) (fun i => match i with | (k, last) => ((((Env.nil.put 3 (.int .i64 last)).put 25 (.slice A3 c.nodes.length cap4)).put 26 (.int .i64 (((c.nodes.length : Nat) : Int)))).put 27 (.int .i64 (((k : Nat) : Int))))) ?_ (0, 0) _ _ ⟨hC, hB, hs2, rfl⟩) (fun _ ha => ((((ha.start.c ha 3 rfl).c ha 25 rfl).c ha 26 rfl).c ha 27 rfl))
    rintro ⟨k, last⟩ G w N0 IH0 ⟨hC, hB, hs2, hI⟩
    refine wcSeq <| wcRegion <| V_ (opLssN rfl rfl) <| wlThen <| wcSeq ?_
    cases h9 : decide (k < c.nodes.length)
    ·
     refine wcCondF rfl <| wcExit <| wcOf <| wcSeq <| wcRegion <| A_ rfl <| wlThen <| wcRet ?_
     exact r1_ hQ rfl rfl (endS hC hw (by have e := hI; rw [List.drop_eq_nil_of_le (Nat.le_of_not_lt (of_decide_eq_false h9))] at e; simp [risesB, h6, h7, h8, h9] at e; simp [check, h6, h7, h8, h9, e]))
    ·
     refine wcCondT rfl <| wcSkip <| wcOf <| wcSeq ?_
     refine wcBlock (wcSeq (wcRegion ?_))
     obtain ⟨x10, hx11⟩ : ∃ y_, c.nodes[k]? = some y_ := ⟨_, List.getElem?_eq_getElem (of_decide_eq_true h9)⟩
     obtain ⟨b12, o13, row14, hA17, hr15, hi16⟩ := hs2.elem hx11; subst hA17
     obtain rfl := hi16
     refine V_ (opIndexAddr rfl rfl slo22 (of_decide_eq_true h9)) <| V_ (opLoadOne (v := (.int .i64 x10)) rfl (RowG.cell0 hC.holds hr15 rfl) one3) <| A_ rfl ?_
     refine wlThen (wcSeq (wcSeq (wcRegion ?_)))
     refine M_ rfl <| M_ rfl <| V_ (opLeq rfl rfl) <| M_ rfl ?_
     cases h18 : decide (x10 ≤ last)
     ·
      refine wlOn rfl rfl <| M_ rfl <| wlOn rfl rfl ?_
      refine wlCallS hC hB rfl co63 rfl rfl (node_ret _ _ hC.holds x10) ?_; intro w hk hC hB
      refine wlOn rfl rfl <| V_ (opNot rfl) <| V_ (opPickF rfl rfl) <| wlThen ?_
      cases h19 : (nodeB x10)
      ·
       refine wcCondT rfl <| wcSeq <| wcRegion <| A_ rfl <| wlThen <| wcRet ?_
       exact r1_ hQ rfl rfl (endS hC hw (by have e := hI; rw [drop_get hx11] at e; simp [risesB, h6, h7, h8, h9, h18, h19] at e; simp [check, h6, h7, h8, h9, h18, h19, e]))
      ·
       refine wcCondF rfl <| wcSkip <| wcOf <| wcRegion <| M_ rfl <| A_ rfl <| wlNil <| wcOf <| wcRegion <| V_ (opIncr rfl rfl (incr_ok (of_decide_eq_true h9) hs2.le)) <| M_ rfl <| wlRound ?_
       exact (IH0 (k + 1, x10) _ _ ⟨hC, hB, hs2, (by rw [← hI, drop_get hx11]; simp [risesB, h6, h7, h8, h9, h18, h19])⟩ (by have := of_decide_eq_true h9; simp; omega)).sub (fun _ ha => ((((ha.start.c ha 3 rfl).c ha 25 rfl).c ha 26 rfl).c ha 27 rfl))
     ·
      refine wlOff rfl rfl rfl rfl <| wlOff rfl rfl rfl rfl <| wlOff rfl rfl rfl rfl <| V_ (opPickT rfl rfl) <| wlThen <| wcCondT rfl <| wcSeq <| wcRegion <| A_ rfl <| wlThen <| wcRet ?_
      exact r1_ hQ rfl rfl (endS hC hw (by have e := hI; rw [drop_get hx11] at e; simp [risesB, h6, h7, h8, h9, h18] at e; simp [check, h6, h7, h8, h9, h18, e]))
   ·
    refine wcCondT rfl <| wcSeq <| wcRegion <| A_ rfl <| wlThen <| wcRet ?_
    exact r1_ hQ rfl rfl (endS hC hw (by simp [check, h6, h7, h8]))
  ·
   refine wlOff rfl rfl rfl rfl <| wlOff rfl rfl rfl rfl <| wlOff rfl rfl rfl rfl <| wlOff rfl rfl rfl rfl <| wlOff rfl rfl rfl rfl <| wlOff rfl rfl rfl rfl <| wlOff rfl rfl rfl rfl <| wlOff rfl rfl rfl rfl <| V_ (opPickT rfl rfl) <| wlThen <| wcCondT rfl <| wcSeq <| wcRegion <| A_ rfl <| wlThen <| wcRet ?_
   exact r1_ hQ rfl rfl (endS hC hw (by simp [check, h6, h7]))
 ·
  refine wlOff rfl rfl rfl rfl <| wlOff rfl rfl rfl rfl <| wlOff rfl rfl rfl rfl <| V_ (opPickT rfl rfl) <| M_ rfl <| wlOff rfl rfl rfl rfl <| wlOff rfl rfl rfl rfl <| wlOff rfl rfl rfl rfl <| wlOff rfl rfl rfl rfl <| wlOff rfl rfl rfl rfl <| wlOff rfl rfl rfl rfl <| wlOff rfl rfl rfl rfl <| wlOff rfl rfl rfl rfl <| V_ (opPickT rfl rfl) <| wlThen <| wcCondT rfl <| wcSeq <| wcRegion <| A_ rfl <| wlThen <| wcRet ?_
  exact r1_ hQ rfl rfl (endS hC hw (by simp [check, h6]))

theorem bs_ret (G0 : Gh) (w0 : World) (hw : Holds G0 w0) (vxs : Value) (xs : List Int) (hxs : Sl G0 vxs xs) (t : Int) :
  RetS Tryz.prog 64 #[vxs, .int .i64 t] G0 w0 (.tuple #[(.int .i64 (((bsI xs t : Nat) : Int))), (.bool (bsF xs t))]) := by
 have hC := Cx.refl hw
 have hB : Bxs G0 w0 w0.heap.size [] := Bxs.nil _ _ _
 obtain ⟨A1, cap2, rfl⟩ := hxs.form
 refine callsOf Tryz.func64 rfl _ Tryz.ntmps64 rfl _ (argsCons (argsCons argsNil (t := 0) rfl) (t := 1) rfl) ?_; intro Q0 hQ
 refine wcSeq <| wcRegion <| A_ rfl <| A_ rfl ?_
 refine wlThen (wcSeq (wcRegion ?_))
 refine M_ rfl <| V_ (opLen rfl isl22) <| A_ rfl ?_
 refine wlThen (wcSeq (wcRegion ?_))
 refine M_ rfl <| A_ rfl <| A_ rfl <| wlThen <| wcSeq <| wcBlock ?_
 refine WC.sub (wrInd (ι := Nat × Nat × Nat) (fun i => match i with | (i, j, f) => j - i) (fun i G w => match i with | (i, j, f) => Cx w0 G0 G w ∧ Bxs G w w0.heap.size [] ∧ Sl G (.slice A1 xs.length cap2) xs ∧ j ≤ xs.length ∧ j ≤ i + f ∧ bsGo xs t f i j = bsI xs t) (fun i => match i with | (i, j, f) => (((((Env.nil.put 0 (.slice A1 xs.length cap2)).put 1 (.int .i64 t)).put 6 (.int .i64 (((xs.length : Nat) : Int)))).put 7 (.int .i64 (((i : Nat) : Int)))).put 8 (.int .i64 (((j : Nat) : Int))))) ?_ (0, xs.length, xs.length) _ _ ⟨hC, hB, hxs, (Nat.le_refl _), (by omega), rfl⟩) (fun _ ha => (((((ha.start.c ha 0 rfl).c ha 1 rfl).c ha 6 rfl).c ha 7 rfl).c ha 8 rfl))
 rintro ⟨i, j, f⟩ G w N0 IH0 ⟨hC, hB, hxs, hj, hf, hI⟩
 refine wcSeq (wcSeq (wcRegion ?_))
 refine M_ rfl <| M_ rfl <| V_ (opLssN rfl rfl) <| wlThen ?_
 cases h3 : decide (i < j)
 ·
  refine wcCondF rfl <| wcExit <| wcOf <| wcSeq <| wcRegion <| M_ rfl <| M_ rfl <| M_ rfl <| V_ (opLssN rfl rfl) <| M_ rfl ?_
  cases h4 : decide (i < xs.length)
  ·
   refine wlOff rfl rfl rfl rfl <| wlOff rfl rfl rfl rfl <| wlOff rfl rfl rfl rfl <| wlOff rfl rfl rfl rfl <| wlOff rfl rfl rfl rfl <| wlOff rfl rfl rfl rfl <| wlOff rfl rfl rfl rfl <| wlOffU rfl rfl rfl <| wlOffU rfl rfl rfl <| wlOffU rfl rfl rfl <| wlOffU rfl rfl rfl <| wlOffU rfl rfl rfl <| wlOffU rfl rfl rfl <| wlOffU rfl rfl rfl <| wlOffU rfl rfl rfl <| wlOffU rfl rfl rfl <| wlOff rfl rfl rfl rfl <| V_ (opPickF rfl rfl) <| A_ rfl <| A_ rfl ?_
   refine wlThen <| wcRet ?_
   exact r2_ hQ rfl rfl rfl (endS hC hw (by have e := bsGo_done xs t f i j (of_decide_eq_false h3); rw [hI] at e; simp [bsF, h3, h4, e]))
  ·
   refine wlOn rfl rfl <| M_ rfl <| wlOn rfl rfl <| M_ rfl <| wlOn rfl rfl ?_
   obtain ⟨x5, hx6⟩ : ∃ y_, xs[i]? = some y_ := ⟨_, List.getElem?_eq_getElem (of_decide_eq_true h4)⟩
   obtain ⟨b7, o8, row9, hA12, hr10, hi11⟩ := hxs.elem hx6; subst hA12
   obtain rfl := hi11
   refine V_ (opIndexAddr rfl rfl slo22 (of_decide_eq_true h4)) <| wlOn rfl rfl <| V_ (opLoadOne (v := (.int .i64 x5)) rfl (RowG.cell0 hC.holds hr10 rfl) one3) <| wlOn rfl rfl <| M_ rfl <| wlOn rfl rfl <| V_ (opEql rfl rfl) <| wlOn rfl rfl <| M_ rfl ?_
   cases h13 : x5 == t
   ·
    refine wlOn rfl rfl <| M_ rfl <| wlOn rfl rfl <| M_ rfl <| wlOn rfl rfl <| V_ (opIndexAddr rfl rfl slo22 (of_decide_eq_true h4)) <| wlOn rfl rfl <| V_ (opLoadOne (v := (.int .i64 x5)) rfl (RowG.cell0 hC.holds hr10 rfl) one3) <| wlOn rfl rfl ?_
    refine wlCallS hC hB rfl co87 rfl rfl (isNaN_ret _ _ hC.holds x5) ?_; intro w hk hC hB
    refine wlOn rfl rfl <| M_ rfl <| wlOff rfl rfl rfl rfl <| wlOff rfl rfl rfl rfl <| wlOn rfl rfl <| V_ (opPickF rfl rfl) <| wlOn rfl rfl <| V_ (opPickF rfl rfl) <| V_ (opPickT rfl rfl) <| A_ rfl <| A_ rfl <| wlThen <| wcRet ?_
    exact r2_ hQ rfl rfl rfl (endS hC hw (by have e := bsGo_done xs t f i j (of_decide_eq_false h3); rw [hI] at e; simp [bsF, h3, h4, h13, e, hx6]))
   ·
    refine wlOff rfl rfl rfl rfl <| wlOff rfl rfl rfl rfl <| wlOff rfl rfl rfl rfl <| wlOff rfl rfl rfl rfl <| wlOff rfl rfl rfl rfl <| wlOff rfl rfl rfl rfl <| wlOffU rfl rfl rfl <| wlOffU rfl rfl rfl <| wlOff rfl rfl rfl rfl <| wlOn rfl rfl <| V_ (opPickT rfl rfl) <| V_ (opPickT rfl rfl) <| A_ rfl <| A_ rfl <| wlThen <| wcRet ?_
    exact r2_ hQ rfl rfl rfl (endS hC hw (by have e := bsGo_done xs t f i j (of_decide_eq_false h3); rw [hI] at e; simp [bsF, h3, h4, h13, e, hx6]))
 ·
  refine wcCondT rfl <| wcSkip <| wcOf ?_
  refine wcBlock (wcSeq (wcRegion ?_))
  refine M_ rfl <| M_ rfl <| V_ (opAddN rfl rfl (by have := hxs.le; unfold maxL at this; have := of_decide_eq_true h3; omega)) <| V_ (opConvN rfl un3 ui106 (wrap_u64_nat (by have := hxs.le; unfold maxL at this; have := of_decide_eq_true h3; omega))) <| V_ (opHalf rfl rfl) <| V_ (opConvN rfl un106 ui3 (wrap_i64_nat (by have := hxs.le; unfold maxL at this; have := of_decide_eq_true h3; omega))) <| A_ rfl ?_
  refine wlThen (wcSeq (wcRegion ?_))
  refine M_ rfl <| M_ rfl ?_
  obtain ⟨x14, hx15⟩ : ∃ y_, xs[(i + j) / 2]? = some y_ := ⟨_, List.getElem?_eq_getElem (by have := of_decide_eq_true h3; omega)⟩
  obtain ⟨b16, o17, row18, hA21, hr19, hi20⟩ := hxs.elem hx15; subst hA21
  obtain rfl := hi20
  refine V_ (opIndexAddr rfl rfl slo22 (by have := of_decide_eq_true h3; omega)) <| V_ (opLoadOne (v := (.int .i64 x14)) rfl (RowG.cell0 hC.holds hr19 rfl) one3) <| M_ rfl ?_
  refine wlCallS hC hB rfl co86 rfl rfl (less_ret _ _ hC.holds x14 t) ?_; intro w hk hC hB
  refine wlThen ?_
  cases h22 : (decide (x14 < t))
  ·
   refine wcCondF rfl <| wcRegion <| M_ rfl <| A_ rfl <| wlNil <| wrOf ?_
   have hij := of_decide_eq_true h3
   exact (IH0 (i, (i + j) / 2, (f - 1)) _ _ ⟨hC, hB, hxs, (by omega), (by omega), (by rw [← hI, bsGo_step xs t f i j (by omega) (by omega) hx15, h22]; rfl)⟩ (by have := of_decide_eq_true h3; simp; omega)).sub (fun _ ha => (((((ha.start.c ha 0 rfl).c ha 1 rfl).c ha 6 rfl).c ha 7 rfl).c ha 8 rfl))
  ·
   refine wcCondT rfl <| wcRegion <| M_ rfl <| V_ (opIncr rfl rfl (by have := hxs.le; unfold maxL at this; have := of_decide_eq_true h3; omega)) <| A_ rfl <| wlNil <| wrOf ?_
   have hij := of_decide_eq_true h3
   exact (IH0 ((i + j) / 2 + 1, j, (f - 1)) _ _ ⟨hC, hB, hxs, (by omega), (by omega), (by rw [← hI, bsGo_step xs t f i j (by omega) (by omega) hx15, h22]; rfl)⟩ (by have := of_decide_eq_true h3; simp; omega)).sub (fun _ ha => (((((ha.start.c ha 0 rfl).c ha 1 rfl).c ha 6 rfl).c ha 7 rfl).c ha 8 rfl))

theorem has_ret (G0 : Gh) (w0 : World) (hw : Holds G0 w0) (csc : List Value) (c : Crew) (hc : Rp.Is G0 csc c) (n : Int) :
  RetS Tryz.prog 24 #[.agg csc.toArray, .int .i64 n] G0 w0 (.bool (has c n)) := by
 have hC := Cx.refl hw
 have hB : Bxs G0 w0 w0.heap.size [] := Bxs.nil _ _ _
 obtain ⟨v1, rfl, hs2⟩ := Crew.opIs hc
 obtain ⟨A3, cap4, rfl⟩ := hs2.form
 refine callsOf Tryz.func24 rfl _ Tryz.ntmps24 rfl _ (argsCons (argsCons argsNil (t := 0) rfl) (t := 1) rfl) ?_; intro Q0 hQ
 refine wcSeq <| wcRegion ?_
 refine wlBox (cs := [(.int .i64 c.faults), (.slice A3 c.nodes.length cap4)]) hC hB rfl rfl rfl ?_; intro b5 w hk hC hB
 refine A_ rfl ?_
 refine wlThen (wcSeq (wcRegion ?_))
 refine V_ (opFieldAddr rfl fo24_1) <| V_ (opLoadOne (v := (.slice A3 c.nodes.length cap4)) rfl (hB.cell (i := 0) rfl rfl) one22) <| M_ rfl ?_
 refine wlCallS hC hB rfl co64 rfl rfl (bs_ret _ _ hC.holds _ c.nodes hs2 n) ?_; intro w hk hC hB
 refine M_ rfl <| V_ (opExtract rfl rfl) <| V_ (opExtract rfl rfl) <| A_ rfl <| A_ rfl ?_
 refine wlThen (wcSeq (wcRegion ?_))
 refine V_ (opLoadRow (cs := [(.int .i64 c.faults), (.slice A3 c.nodes.length cap4)]) rfl (hB.range (i := 0) (m := 2) rfl rfl) row24 rfl) ?_
 refine wlCallS hC hB rfl co23 rfl rfl (check_ret _ _ hC.holds _ c (Crew.mkIs (x := c) hs2)) ?_; intro w hk hC hB
 refine V_ (opEql rfl rfl) <| M_ rfl ?_
 cases h6 : ((check c)) == 0
 ·
  refine wlOff rfl rfl rfl rfl <| V_ (opPickF rfl rfl) <| A_ rfl <| wlThen <| wcRet ?_
  exact r1_ hQ rfl rfl (endS hC hw (by simp [has, h6]))
 ·
  refine wlOn rfl rfl <| M_ rfl <| V_ (opPickT rfl rfl) <| A_ rfl <| wlThen <| wcRet ?_
  exact r1_ hQ rfl rfl (endS hC hw (by simp [has, h6]))

theorem most_ret (G0 : Gh) (w0 : World) (hw : Holds G0 w0) (csc : List Value) (c : Crew) (hc : Rp.Is G0 csc c) :
  RetS Tryz.prog 60 #[.agg csc.toArray] G0 w0 (.int .i64 (most c)) := by
 have hC := Cx.refl hw
 have hB : Bxs G0 w0 w0.heap.size [] := Bxs.nil _ _ _
 obtain ⟨v1, rfl, hs2⟩ := Crew.opIs hc
 obtain ⟨A3, cap4, rfl⟩ := hs2.form
 refine callsOf Tryz.func60 rfl _ Tryz.ntmps60 rfl _ (argsCons argsNil (t := 0) rfl) ?_; intro Q0 hQ
 refine wcSeq <| wcRegion ?_
 refine wlBox (cs := [(.int .i64 c.faults), (.slice A3 c.nodes.length cap4)]) hC hB rfl rfl rfl ?_; intro b5 w hk hC hB
 refine A_ rfl ?_
 refine wlThen (wcSeq (wcSeq (wcRegion ?_)))
 refine V_ (opLoadRow (cs := [(.int .i64 c.faults), (.slice A3 c.nodes.length cap4)]) rfl (hB.range (i := 0) (m := 2) rfl rfl) row24 rfl) ?_
 refine wlCallS hC hB rfl co23 rfl rfl (check_ret _ _ hC.holds _ c (Crew.mkIs (x := c) hs2)) ?_; intro w hk hC hB
 refine V_ (opNeq rfl rfl) <| wlThen ?_
 cases h6 : ((check c)) != 0
 ·
  refine wcCondF rfl <| wcSkip <| wcOf <| wcSeq <| wcRegion <| V_ (opFieldAddr rfl fo24_0) <| V_ (opLoadOne (v := (.int .i64 c.faults)) rfl (hB.cell (i := 0) rfl rfl) one3) <| V_ (opMul rfl rfl) <| V_ (opAdd rfl rfl) <| A_ rfl <| wlThen <| wcRet ?_
  exact r1_ hQ rfl rfl (endS hC hw (by simp [most, h6]))
 ·
  refine wcCondT rfl <| wcSeq <| wcRegion <| A_ rfl <| wlThen <| wcRet ?_
  exact r1_ hQ rfl rfl (endS hC hw (by simp [most, h6]))

theorem or_ret (G0 : Gh) (w0 : World) (hw : Holds G0 w0) (vl : Value) (l : List Int) (hl : Sl G0 vl l) :
  RetS Tryz.prog 82 #[vl] G0 w0 (.int .i64 (orI l)) := by
 have hC := Cx.refl hw
 have hB : Bxs G0 w0 w0.heap.size [] := Bxs.nil _ _ _
 obtain ⟨A1, cap2, rfl⟩ := hl.form
 refine callsOf Tryz.func82 rfl _ Tryz.ntmps82 rfl _ (argsCons argsNil (t := 0) rfl) ?_; intro Q0 hQ
 refine wcSeq <| wcRegion <| A_ rfl ?_
 refine wlThen (wcSeq (wcRegion ?_))
 refine A_ rfl ?_
 refine wlThen (wcSeq (wcSeq (wcRegion ?_)))
 refine M_ rfl <| V_ (opLen rfl isl22) <| M_ rfl <| wlThen <| wcBlock ?_
 refine WC.sub (wrInd (ι := Nat) (fun k => l.length - k) (fun k G w => Cx w0 G0 G w ∧ Bxs G w w0.heap.size [] ∧ Sl G (.slice A1 l.length cap2) l ∧ orI (l.drop k) = orI l) (fun k => ((((Env.nil.put 3 (.int .i64 0)).put 6 (.slice A1 l.length cap2)).put 7 (.int .i64 (((l.length : Nat) : Int)))).put 8 (.int .i64 (((k : Nat) : Int))))) ?_ (0) _ _ ⟨hC, hB, hl, rfl⟩) (fun _ ha => ((((ha.start.c ha 3 rfl).c ha 6 rfl).c ha 7 rfl).c ha 8 rfl))
 rintro k G w N0 IH0 ⟨hC, hB, hl, hI⟩
 refine wcSeq <| wcRegion <| V_ (opLssN rfl rfl) <| wlThen <| wcSeq ?_
 cases h3 : decide (k < l.length)
 ·
  refine wcCondF rfl <| wcExit <| wcOf <| wcSeq <| wcRegion <| M_ rfl <| A_ rfl <| wlThen <| wcRet ?_
  exact r1_ hQ rfl rfl (endS hC hw (by have e := hI; rw [List.drop_eq_nil_of_le (Nat.le_of_not_lt (of_decide_eq_false h3))] at e; simp [orI, h3] at e; simp [e]))
 ·
  refine wcCondT rfl <| wcSkip <| wcOf <| wcSeq ?_
  refine wcBlock (wcSeq (wcRegion ?_))
  obtain ⟨x4, hx5⟩ : ∃ y_, l[k]? = some y_ := ⟨_, List.getElem?_eq_getElem (of_decide_eq_true h3)⟩
  obtain ⟨b6, o7, row8, hA11, hr9, hi10⟩ := hl.elem hx5; subst hA11
  obtain rfl := hi10
  refine V_ (opIndexAddr rfl rfl slo22 (of_decide_eq_true h3)) <| V_ (opLoadOne (v := (.int .i64 x4)) rfl (RowG.cell0 hC.holds hr9 rfl) one3) <| A_ rfl ?_
  refine wlThen (wcSeq (wcRegion ?_))
  refine M_ rfl <| M_ rfl <| V_ (opNeq rfl rfl) <| wlThen ?_
  cases h12 : x4 != 0
  ·
   refine wcCondF rfl <| wcSkip <| wcOf <| wcRegion <| V_ (opIncr rfl rfl (incr_ok (of_decide_eq_true h3) hl.le)) <| M_ rfl <| wlRound ?_
   exact (IH0 (k + 1) _ _ ⟨hC, hB, hl, (by rw [← hI, drop_get hx5]; simp [orI, h3, h12])⟩ (by have := of_decide_eq_true h3; simp; omega)).sub (fun _ ha => ((((ha.start.c ha 3 rfl).c ha 6 rfl).c ha 7 rfl).c ha 8 rfl))
  ·
   refine wcCondT rfl <| wcSeq <| wcRegion <| M_ rfl <| A_ rfl <| wlThen <| wcRet ?_
   exact r1_ hQ rfl rfl (endS hC hw (by have e := hI; rw [drop_get hx5] at e; simp [orI, h3, h12] at e; simp [e]))

theorem bcmp_ret (G0 : Gh) (w0 : World) (hw : Holds G0 w0) (va : Value) (a : List UInt8) (ha : Sl G0 va a) (vb : Value) (b : List UInt8) (hb : Sl G0 vb b) :
  RetS Tryz.prog 84 #[va, vb] G0 w0 (.int .i64 (cmpB a b)) := by
 have hC := Cx.refl hw
 have hB : Bxs G0 w0 w0.heap.size [] := Bxs.nil _ _ _
 obtain ⟨A1, cap2, rfl⟩ := ha.form
 obtain ⟨A3, cap4, rfl⟩ := hb.form
 refine callsOf Tryz.func84 rfl _ Tryz.ntmps84 rfl _ (argsCons (argsCons argsNil (t := 0) rfl) (t := 1) rfl) ?_; intro Q0 hQ
 refine wcSeq <| wcRegion <| A_ rfl ?_
 refine wlThen (wcSeq (wcRegion ?_))
 refine M_ rfl <| M_ rfl <| V_ (opCallExt Tryz.func100 ext100b ext100n ext100x ext100f rfl (run_compare hC.holds ha hb)) <| A_ rfl <| wlThen <| wcRet ?_
 exact r1_ hQ rfl rfl (endS hC hw rfl)

theorem bring_ret (G0 : Gh) (w0 : World) (hw : Holds G0 w0) (n : Int) (m : Int) :
  RetS Tryz.prog 34 #[.int .i64 n, .int .i64 m] G0 w0 (.int .i64 ((bringI n m))) := by
 have hC := Cx.refl hw
 have hB : Bxs G0 w0 w0.heap.size [] := Bxs.nil _ _ _
 refine callsOf Tryz.func34 rfl _ Tryz.ntmps34 rfl _ (argsCons (argsCons argsNil (t := 0) rfl) (t := 1) rfl) ?_; intro Q0 hQ
 refine wcSeq <| wcRegion <| A_ rfl ?_
 refine wlThen (wcSeq (wcSeq (wcRegion ?_)))
 refine M_ rfl <| V_ (opLeq rfl rfl) <| wlThen ?_
 cases h1 : decide (m ≤ 0)
 ·
  refine wcCondF rfl <| wcSkip <| wcOf <| wcSeq <| wcRegion <| M_ rfl <| M_ rfl <| V_ (opRem rfl rfl (by have := of_decide_eq_false h1; omega)) <| A_ rfl ?_
  refine wlThen (wcSeq (wcSeq (wcRegion ?_)))
  refine M_ rfl <| V_ (opLss rfl rfl) <| wlThen ?_
  cases h2 : decide ((Int.tmod n m) < 0)
  ·
   refine wcCondF rfl <| wcSkip <| wcOf <| wcSeq <| wcRegion <| M_ rfl <| A_ rfl <| wlThen <| wcRet ?_
   exact r1_ hQ rfl rfl (endS hC hw (by simp only [bringI, h1, h2, cond_true, cond_false]))
  ·
   refine wcCondT rfl <| wcRegion <| M_ rfl <| M_ rfl <| V_ (opAdd rfl rfl) <| A_ rfl ?_
   refine wlThen (wcSeq (wcRegion ?_))
   refine M_ rfl <| A_ rfl <| wlThen <| wcRet ?_
   exact r1_ hQ rfl rfl (endS hC hw (by simp only [bringI, h1, h2, cond_true, cond_false]))
 ·
  refine wcCondT rfl <| wcSeq <| wcRegion <| A_ rfl <| wlThen <| wcRet ?_
  exact r1_ hQ rfl rfl (endS hC hw (by simp only [bringI, h1, cond_true, cond_false]))

theorem crewOf1_ret (G0 : Gh) (w0 : World) (hw : Holds G0 w0)  :
  RetG Tryz.prog 22 #[.int .i64 1] G0 w0 (fun G v => ∃ c0, v = (.agg c0.toArray) ∧ Rp.Is G c0 ((crewI 1))) := by
 have hC := Cx.refl hw
 have hB : Bxs G0 w0 w0.heap.size [] := Bxs.nil _ _ _
 refine callsOf Tryz.func22 rfl _ Tryz.ntmps22 rfl _ (argsCons argsNil (t := 0) rfl) ?_; intro Q0 hQ
 refine wcSeq <| wcRegion ?_
 refine wlAlloc hC hB zero24 rfl ?_; intro b1 w hk hC hB
 refine wlThen (wcSeq (wcRegion ?_))
 refine M_ rfl <| V_ (B_ (ps := [(0, .tmp 5)]) (cs := [(.int .i64 1), (.slice none 0 0)]) so24 zero24 rfl rfl) ?_
 refine wlAlloc hC hB zero24 rfl ?_; intro b2 w hk hC hB
 refine wlStore 0 (vs := [(.int .i64 1), (.slice none 0 0)]) (cs := [(.int .i64 0), (.slice none 0 0)]) (cs' := [(.int .i64 1), (.slice none 0 0)]) hC hB rfl rfl rfl sz24 rfl rfl rfl (by simp [cl_]) rfl rfl ?_; intro w hC hB
 refine wlThen (wcSeq (wcSeq (wcRegion ?_)))
 refine A_ rfl <| wlThen <| wcBlock ?_
 refine wcLoop 5 ?_
 refine wrSucc ?_
 refine wcSeq (wcSeq (wcRegion ?_))
 refine M_ rfl <| M_ rfl <| V_ (OpVal.cast (v' := .int .i64 3) (opMul rfl rfl) (congrArg (Value.int .i64) (by decide))) <| V_ (OpVal.cast (v' := .int .i64 4) (opAdd rfl rfl) (congrArg (Value.int .i64) (by decide))) <| V_ (opLeq rfl rfl) <| wlThen <| wcCondT rfl <| wcSkip <| wcOf <| wcSeq <| wcBlock <| wcRegion <| V_ (opFieldAddr rfl fo24_1) <| V_ (opLoadOne (v := (.slice none 0 0)) rfl (hB.cell (i := 0) rfl rfl) one22) <| M_ rfl ?_
 refine wlBuildSlice (α := Int) (ps := [(0, .tmp 16)]) (xs := [1]) (rows := [[(.int .i64 1)]]) elo22 rfl rfl hC hB rfl rfl rfl ⟨rfl, trivial⟩ rfl ?_; intro b3 G w hk hC hB hs4
 refine wlAppend (α := Int) (bl := [(b2, 24, [(.int .i64 1), (.slice none 0 0)]), (b1, 24, [(.int .i64 0), (.slice none 0 0)])]) (o := none) (r := []) elo22 hC hB rfl rfl (Ow.nil_ _ 3) hs4 (by simp) rfl rfl ?_; intro A5 cap6 o7 w hC hB hO8
 refine V_ (opFieldAddr rfl fo24_1) ?_
 refine wlStore 0 (vs := [(.slice A5 ((([] ++ [1])).length) cap6)]) (cs := [(.int .i64 1), (.slice none 0 0)]) (cs' := [(.int .i64 1), (.slice A5 ((([] ++ [1])).length) cap6)]) hC hB rfl rfl rfl sz22 rfl rfl rfl (by simp [cl_]) rfl rfl ?_; intro w hC hB
 replace hB : Bxs G w w0.heap.size ([(b2, 24, [(.int .i64 1), (.slice A5 ((([] ++ [1])).length) cap6)]), (b1, 24, [(.int .i64 0), (.slice none 0 0)])] ++ (Option.toList o7 ++ [])) := hB
 refine wlNil <| wcOf <| wcRegion <| M_ rfl <| V_ (OpVal.cast (v' := .int .i64 2) (opAdd rfl rfl) (congrArg (Value.int .i64) (by decide))) <| A_ rfl <| wlRound <| wrSucc ?_
 refine wcSeq (wcSeq (wcRegion ?_))
 refine M_ rfl <| M_ rfl <| V_ (OpVal.cast (v' := .int .i64 3) (opMul rfl rfl) (congrArg (Value.int .i64) (by decide))) <| V_ (OpVal.cast (v' := .int .i64 4) (opAdd rfl rfl) (congrArg (Value.int .i64) (by decide))) <| V_ (opLeq rfl rfl) <| wlThen <| wcCondT rfl <| wcSkip <| wcOf <| wcSeq <| wcBlock <| wcRegion <| V_ (opFieldAddr rfl fo24_1) <| V_ (opLoadOne (v := (.slice A5 ((([] ++ [1])).length) cap6)) rfl (hB.cell (i := 0) rfl rfl) one22) <| M_ rfl ?_
 refine wlBuildSlice (α := Int) (ps := [(0, .tmp 16)]) (xs := [2]) (rows := [[(.int .i64 2)]]) elo22 rfl rfl hC hB rfl rfl rfl ⟨rfl, trivial⟩ rfl ?_; intro b9 G w hk hC hB hs10
 replace hO8 := hO8.mono hk.gle
 refine wlAppend (α := Int) (bl := [(b2, 24, [(.int .i64 1), (.slice A5 ((([] ++ [1])).length) cap6)]), (b1, 24, [(.int .i64 0), (.slice none 0 0)])]) (o := o7) (r := []) elo22 hC hB rfl rfl hO8 hs10 (by simp) rfl rfl ?_; intro A11 cap12 o13 w hC hB hO14
 refine V_ (opFieldAddr rfl fo24_1) ?_
 refine wlStore 0 (vs := [(.slice A11 (((([] ++ [1]) ++ [2])).length) cap12)]) (cs := [(.int .i64 1), (.slice A5 ((([] ++ [1])).length) cap6)]) (cs' := [(.int .i64 1), (.slice A11 (((([] ++ [1]) ++ [2])).length) cap12)]) hC hB rfl rfl rfl sz22 rfl rfl rfl (by simp [cl_]) rfl rfl ?_; intro w hC hB
 replace hB : Bxs G w w0.heap.size ([(b2, 24, [(.int .i64 1), (.slice A11 (((([] ++ [1]) ++ [2])).length) cap12)]), (b1, 24, [(.int .i64 0), (.slice none 0 0)])] ++ (Option.toList o13 ++ [])) := hB
 refine wlNil <| wcOf <| wcRegion <| M_ rfl <| V_ (OpVal.cast (v' := .int .i64 3) (opAdd rfl rfl) (congrArg (Value.int .i64) (by decide))) <| A_ rfl <| wlRound <| wrSucc ?_
 refine wcSeq (wcSeq (wcRegion ?_))
 refine M_ rfl <| M_ rfl <| V_ (OpVal.cast (v' := .int .i64 3) (opMul rfl rfl) (congrArg (Value.int .i64) (by decide))) <| V_ (OpVal.cast (v' := .int .i64 4) (opAdd rfl rfl) (congrArg (Value.int .i64) (by decide))) <| V_ (opLeq rfl rfl) <| wlThen <| wcCondT rfl <| wcSkip <| wcOf <| wcSeq <| wcBlock <| wcRegion <| V_ (opFieldAddr rfl fo24_1) <| V_ (opLoadOne (v := (.slice A11 (((([] ++ [1]) ++ [2])).length) cap12)) rfl (hB.cell (i := 0) rfl rfl) one22) <| M_ rfl ?_
 refine wlBuildSlice (α := Int) (ps := [(0, .tmp 16)]) (xs := [3]) (rows := [[(.int .i64 3)]]) elo22 rfl rfl hC hB rfl rfl rfl ⟨rfl, trivial⟩ rfl ?_; intro b15 G w hk hC hB hs16
 replace hO14 := hO14.mono hk.gle
 refine wlAppend (α := Int) (bl := [(b2, 24, [(.int .i64 1), (.slice A11 (((([] ++ [1]) ++ [2])).length) cap12)]), (b1, 24, [(.int .i64 0), (.slice none 0 0)])]) (o := o13) (r := []) elo22 hC hB rfl rfl hO14 hs16 (by simp) rfl rfl ?_; intro A17 cap18 o19 w hC hB hO20
 refine V_ (opFieldAddr rfl fo24_1) ?_
 refine wlStore 0 (vs := [(.slice A17 ((((([] ++ [1]) ++ [2]) ++ [3])).length) cap18)]) (cs := [(.int .i64 1), (.slice A11 (((([] ++ [1]) ++ [2])).length) cap12)]) (cs' := [(.int .i64 1), (.slice A17 ((((([] ++ [1]) ++ [2]) ++ [3])).length) cap18)]) hC hB rfl rfl rfl sz22 rfl rfl rfl (by simp [cl_]) rfl rfl ?_; intro w hC hB
 replace hB : Bxs G w w0.heap.size ([(b2, 24, [(.int .i64 1), (.slice A17 ((((([] ++ [1]) ++ [2]) ++ [3])).length) cap18)]), (b1, 24, [(.int .i64 0), (.slice none 0 0)])] ++ (Option.toList o19 ++ [])) := hB
 refine wlNil <| wcOf <| wcRegion <| M_ rfl <| V_ (OpVal.cast (v' := .int .i64 4) (opAdd rfl rfl) (congrArg (Value.int .i64) (by decide))) <| A_ rfl <| wlRound <| wrSucc ?_
 refine wcSeq (wcSeq (wcRegion ?_))
 refine M_ rfl <| M_ rfl <| V_ (OpVal.cast (v' := .int .i64 3) (opMul rfl rfl) (congrArg (Value.int .i64) (by decide))) <| V_ (OpVal.cast (v' := .int .i64 4) (opAdd rfl rfl) (congrArg (Value.int .i64) (by decide))) <| V_ (opLeq rfl rfl) <| wlThen <| wcCondT rfl <| wcSkip <| wcOf <| wcSeq <| wcBlock <| wcRegion <| V_ (opFieldAddr rfl fo24_1) <| V_ (opLoadOne (v := (.slice A17 ((((([] ++ [1]) ++ [2]) ++ [3])).length) cap18)) rfl (hB.cell (i := 0) rfl rfl) one22) <| M_ rfl ?_
 refine wlBuildSlice (α := Int) (ps := [(0, .tmp 16)]) (xs := [4]) (rows := [[(.int .i64 4)]]) elo22 rfl rfl hC hB rfl rfl rfl ⟨rfl, trivial⟩ rfl ?_; intro b21 G w hk hC hB hs22
 replace hO20 := hO20.mono hk.gle
 refine wlAppend (α := Int) (bl := [(b2, 24, [(.int .i64 1), (.slice A17 ((((([] ++ [1]) ++ [2]) ++ [3])).length) cap18)]), (b1, 24, [(.int .i64 0), (.slice none 0 0)])]) (o := o19) (r := []) elo22 hC hB rfl rfl hO20 hs22 (by simp) rfl rfl ?_; intro A23 cap24 o25 w hC hB hO26
 refine V_ (opFieldAddr rfl fo24_1) ?_
 refine wlStore 0 (vs := [(.slice A23 (((((([] ++ [1]) ++ [2]) ++ [3]) ++ [4])).length) cap24)]) (cs := [(.int .i64 1), (.slice A17 ((((([] ++ [1]) ++ [2]) ++ [3])).length) cap18)]) (cs' := [(.int .i64 1), (.slice A23 (((((([] ++ [1]) ++ [2]) ++ [3]) ++ [4])).length) cap24)]) hC hB rfl rfl rfl sz22 rfl rfl rfl (by simp [cl_]) rfl rfl ?_; intro w hC hB
 replace hB : Bxs G w w0.heap.size ([(b2, 24, [(.int .i64 1), (.slice A23 (((((([] ++ [1]) ++ [2]) ++ [3]) ++ [4])).length) cap24)]), (b1, 24, [(.int .i64 0), (.slice none 0 0)])] ++ (Option.toList o25 ++ [])) := hB
 refine wlNil <| wcOf <| wcRegion <| M_ rfl <| V_ (OpVal.cast (v' := .int .i64 5) (opAdd rfl rfl) (congrArg (Value.int .i64) (by decide))) <| A_ rfl <| wlRound <| wrSucc ?_
 refine wcSeq (wcSeq (wcRegion ?_))
 refine M_ rfl <| M_ rfl <| V_ (OpVal.cast (v' := .int .i64 3) (opMul rfl rfl) (congrArg (Value.int .i64) (by decide))) <| V_ (OpVal.cast (v' := .int .i64 4) (opAdd rfl rfl) (congrArg (Value.int .i64) (by decide))) <| V_ (opLeq rfl rfl) <| wlThen <| wcCondF rfl <| wcExit <| wcOf <| wcSeq <| wcRegion <| V_ (opLoadRow (cs := [(.int .i64 1), (.slice A23 (((((([] ++ [1]) ++ [2]) ++ [3]) ++ [4])).length) cap24)]) rfl (hB.range (i := 0) (m := 2) rfl rfl) row24 rfl) ?_
 refine wlStore 1 (vs := [(.int .i64 1), (.slice A23 (((((([] ++ [1]) ++ [2]) ++ [3]) ++ [4])).length) cap24)]) (cs := [(.int .i64 0), (.slice none 0 0)]) (cs' := [(.int .i64 1), (.slice A23 (((((([] ++ [1]) ++ [2]) ++ [3]) ++ [4])).length) cap24)]) hC hB rfl rfl rfl sz24 rfl rfl rfl (by simp [cl_]) rfl rfl ?_; intro w hC hB
 replace hB : Bxs G w w0.heap.size ([(b2, 24, [(.int .i64 1), (.slice A23 (((((([] ++ [1]) ++ [2]) ++ [3]) ++ [4])).length) cap24)]), (b1, 24, [(.int .i64 1), (.slice A23 (((((([] ++ [1]) ++ [2]) ++ [3]) ++ [4])).length) cap24)])] ++ (Option.toList o25 ++ [])) := hB
 refine wlThen <| wcRet ?_
 obtain ⟨G, hg28, hC, hB, hs27⟩ := Ow.freeze' (bl := [(b2, 24, [(.int .i64 1), (.slice A23 (((((([] ++ [1]) ++ [2]) ++ [3]) ++ [4])).length) cap24)]), (b1, 24, [(.int .i64 1), (.slice A23 (((((([] ++ [1]) ++ [2]) ++ [3]) ++ [4])).length) cap24)])]) (r := []) hO26 hC (Nat.le_refl _) hB (by simp [maxL])
 exact fun ac_ ha => hQ _ _ _ (results1 ha rfl ⟨_, _, [(.int .i64 1), (.slice A23 (((((([] ++ [1]) ++ [2]) ++ [3]) ++ [4])).length) cap24)], rfl, row24, rfl, hB.range (i := 1) (m := 2) rfl rfl, rfl⟩) ha.df (endG hC ⟨_, rfl, (Crew.mkIs (x := (Crew.mk 1 ((((([] ++ [1]) ++ [2]) ++ [3]) ++ [4])))) hs27)⟩)

set_option maxRecDepth 4000 in
theorem crewOf2_ret (G0 : Gh) (w0 : World) (hw : Holds G0 w0)  :
  RetG Tryz.prog 22 #[.int .i64 2] G0 w0 (fun G v => ∃ c0, v = (.agg c0.toArray) ∧ Rp.Is G c0 ((crewI 2))) := by
 have hC := Cx.refl hw
 have hB : Bxs G0 w0 w0.heap.size [] := Bxs.nil _ _ _
 refine callsOf Tryz.func22 rfl _ Tryz.ntmps22 rfl _ (argsCons argsNil (t := 0) rfl) ?_; intro Q0 hQ
 refine wcSeq <| wcRegion ?_
 refine wlAlloc hC hB zero24 rfl ?_; intro b1 w hk hC hB
 refine wlThen (wcSeq (wcRegion ?_))
 refine M_ rfl <| V_ (B_ (ps := [(0, .tmp 5)]) (cs := [(.int .i64 2), (.slice none 0 0)]) so24 zero24 rfl rfl) ?_
 refine wlAlloc hC hB zero24 rfl ?_; intro b2 w hk hC hB
 refine wlStore 0 (vs := [(.int .i64 2), (.slice none 0 0)]) (cs := [(.int .i64 0), (.slice none 0 0)]) (cs' := [(.int .i64 2), (.slice none 0 0)]) hC hB rfl rfl rfl sz24 rfl rfl rfl (by simp [cl_]) rfl rfl ?_; intro w hC hB
 refine wlThen (wcSeq (wcSeq (wcRegion ?_)))
 refine A_ rfl <| wlThen <| wcBlock ?_
 refine wcLoop 8 ?_
 refine wrSucc ?_
 refine wcSeq (wcSeq (wcRegion ?_))
 refine M_ rfl <| M_ rfl <| V_ (OpVal.cast (v' := .int .i64 6) (opMul rfl rfl) (congrArg (Value.int .i64) (by decide))) <| V_ (OpVal.cast (v' := .int .i64 7) (opAdd rfl rfl) (congrArg (Value.int .i64) (by decide))) <| V_ (opLeq rfl rfl) <| wlThen <| wcCondT rfl <| wcSkip <| wcOf <| wcSeq <| wcBlock <| wcRegion <| V_ (opFieldAddr rfl fo24_1) <| V_ (opLoadOne (v := (.slice none 0 0)) rfl (hB.cell (i := 0) rfl rfl) one22) <| M_ rfl ?_
 refine wlBuildSlice (α := Int) (ps := [(0, .tmp 16)]) (xs := [1]) (rows := [[(.int .i64 1)]]) elo22 rfl rfl hC hB rfl rfl rfl ⟨rfl, trivial⟩ rfl ?_; intro b3 G w hk hC hB hs4
 refine wlAppend (α := Int) (bl := [(b2, 24, [(.int .i64 2), (.slice none 0 0)]), (b1, 24, [(.int .i64 0), (.slice none 0 0)])]) (o := none) (r := []) elo22 hC hB rfl rfl (Ow.nil_ _ 3) hs4 (by simp) rfl rfl ?_; intro A5 cap6 o7 w hC hB hO8
 refine V_ (opFieldAddr rfl fo24_1) ?_
 refine wlStore 0 (vs := [(.slice A5 ((([] ++ [1])).length) cap6)]) (cs := [(.int .i64 2), (.slice none 0 0)]) (cs' := [(.int .i64 2), (.slice A5 ((([] ++ [1])).length) cap6)]) hC hB rfl rfl rfl sz22 rfl rfl rfl (by simp [cl_]) rfl rfl ?_; intro w hC hB
 replace hB : Bxs G w w0.heap.size ([(b2, 24, [(.int .i64 2), (.slice A5 ((([] ++ [1])).length) cap6)]), (b1, 24, [(.int .i64 0), (.slice none 0 0)])] ++ (Option.toList o7 ++ [])) := hB
 refine wlNil <| wcOf <| wcRegion <| M_ rfl <| V_ (OpVal.cast (v' := .int .i64 2) (opAdd rfl rfl) (congrArg (Value.int .i64) (by decide))) <| A_ rfl <| wlRound <| wrSucc ?_
 refine wcSeq (wcSeq (wcRegion ?_))
 refine M_ rfl <| M_ rfl <| V_ (OpVal.cast (v' := .int .i64 6) (opMul rfl rfl) (congrArg (Value.int .i64) (by decide))) <| V_ (OpVal.cast (v' := .int .i64 7) (opAdd rfl rfl) (congrArg (Value.int .i64) (by decide))) <| V_ (opLeq rfl rfl) <| wlThen <| wcCondT rfl <| wcSkip <| wcOf <| wcSeq <| wcBlock <| wcRegion <| V_ (opFieldAddr rfl fo24_1) <| V_ (opLoadOne (v := (.slice A5 ((([] ++ [1])).length) cap6)) rfl (hB.cell (i := 0) rfl rfl) one22) <| M_ rfl ?_
 refine wlBuildSlice (α := Int) (ps := [(0, .tmp 16)]) (xs := [2]) (rows := [[(.int .i64 2)]]) elo22 rfl rfl hC hB rfl rfl rfl ⟨rfl, trivial⟩ rfl ?_; intro b9 G w hk hC hB hs10
 replace hO8 := hO8.mono hk.gle
 refine wlAppend (α := Int) (bl := [(b2, 24, [(.int .i64 2), (.slice A5 ((([] ++ [1])).length) cap6)]), (b1, 24, [(.int .i64 0), (.slice none 0 0)])]) (o := o7) (r := []) elo22 hC hB rfl rfl hO8 hs10 (by simp) rfl rfl ?_; intro A11 cap12 o13 w hC hB hO14
 refine V_ (opFieldAddr rfl fo24_1) ?_
 refine wlStore 0 (vs := [(.slice A11 (((([] ++ [1]) ++ [2])).length) cap12)]) (cs := [(.int .i64 2), (.slice A5 ((([] ++ [1])).length) cap6)]) (cs' := [(.int .i64 2), (.slice A11 (((([] ++ [1]) ++ [2])).length) cap12)]) hC hB rfl rfl rfl sz22 rfl rfl rfl (by simp [cl_]) rfl rfl ?_; intro w hC hB
 replace hB : Bxs G w w0.heap.size ([(b2, 24, [(.int .i64 2), (.slice A11 (((([] ++ [1]) ++ [2])).length) cap12)]), (b1, 24, [(.int .i64 0), (.slice none 0 0)])] ++ (Option.toList o13 ++ [])) := hB
 refine wlNil <| wcOf <| wcRegion <| M_ rfl <| V_ (OpVal.cast (v' := .int .i64 3) (opAdd rfl rfl) (congrArg (Value.int .i64) (by decide))) <| A_ rfl <| wlRound <| wrSucc ?_
 refine wcSeq (wcSeq (wcRegion ?_))
 refine M_ rfl <| M_ rfl <| V_ (OpVal.cast (v' := .int .i64 6) (opMul rfl rfl) (congrArg (Value.int .i64) (by decide))) <| V_ (OpVal.cast (v' := .int .i64 7) (opAdd rfl rfl) (congrArg (Value.int .i64) (by decide))) <| V_ (opLeq rfl rfl) <| wlThen <| wcCondT rfl <| wcSkip <| wcOf <| wcSeq <| wcBlock <| wcRegion <| V_ (opFieldAddr rfl fo24_1) <| V_ (opLoadOne (v := (.slice A11 (((([] ++ [1]) ++ [2])).length) cap12)) rfl (hB.cell (i := 0) rfl rfl) one22) <| M_ rfl ?_
 refine wlBuildSlice (α := Int) (ps := [(0, .tmp 16)]) (xs := [3]) (rows := [[(.int .i64 3)]]) elo22 rfl rfl hC hB rfl rfl rfl ⟨rfl, trivial⟩ rfl ?_; intro b15 G w hk hC hB hs16
 replace hO14 := hO14.mono hk.gle
 refine wlAppend (α := Int) (bl := [(b2, 24, [(.int .i64 2), (.slice A11 (((([] ++ [1]) ++ [2])).length) cap12)]), (b1, 24, [(.int .i64 0), (.slice none 0 0)])]) (o := o13) (r := []) elo22 hC hB rfl rfl hO14 hs16 (by simp) rfl rfl ?_; intro A17 cap18 o19 w hC hB hO20
 refine V_ (opFieldAddr rfl fo24_1) ?_
 refine wlStore 0 (vs := [(.slice A17 ((((([] ++ [1]) ++ [2]) ++ [3])).length) cap18)]) (cs := [(.int .i64 2), (.slice A11 (((([] ++ [1]) ++ [2])).length) cap12)]) (cs' := [(.int .i64 2), (.slice A17 ((((([] ++ [1]) ++ [2]) ++ [3])).length) cap18)]) hC hB rfl rfl rfl sz22 rfl rfl rfl (by simp [cl_]) rfl rfl ?_; intro w hC hB
 replace hB : Bxs G w w0.heap.size ([(b2, 24, [(.int .i64 2), (.slice A17 ((((([] ++ [1]) ++ [2]) ++ [3])).length) cap18)]), (b1, 24, [(.int .i64 0), (.slice none 0 0)])] ++ (Option.toList o19 ++ [])) := hB
 refine wlNil <| wcOf <| wcRegion <| M_ rfl <| V_ (OpVal.cast (v' := .int .i64 4) (opAdd rfl rfl) (congrArg (Value.int .i64) (by decide))) <| A_ rfl <| wlRound <| wrSucc ?_
 refine wcSeq (wcSeq (wcRegion ?_))
 refine M_ rfl <| M_ rfl <| V_ (OpVal.cast (v' := .int .i64 6) (opMul rfl rfl) (congrArg (Value.int .i64) (by decide))) <| V_ (OpVal.cast (v' := .int .i64 7) (opAdd rfl rfl) (congrArg (Value.int .i64) (by decide))) <| V_ (opLeq rfl rfl) <| wlThen <| wcCondT rfl <| wcSkip <| wcOf <| wcSeq <| wcBlock <| wcRegion <| V_ (opFieldAddr rfl fo24_1) <| V_ (opLoadOne (v := (.slice A17 ((((([] ++ [1]) ++ [2]) ++ [3])).length) cap18)) rfl (hB.cell (i := 0) rfl rfl) one22) <| M_ rfl ?_
 refine wlBuildSlice (α := Int) (ps := [(0, .tmp 16)]) (xs := [4]) (rows := [[(.int .i64 4)]]) elo22 rfl rfl hC hB rfl rfl rfl ⟨rfl, trivial⟩ rfl ?_; intro b21 G w hk hC hB hs22
 replace hO20 := hO20.mono hk.gle
 refine wlAppend (α := Int) (bl := [(b2, 24, [(.int .i64 2), (.slice A17 ((((([] ++ [1]) ++ [2]) ++ [3])).length) cap18)]), (b1, 24, [(.int .i64 0), (.slice none 0 0)])]) (o := o19) (r := []) elo22 hC hB rfl rfl hO20 hs22 (by simp) rfl rfl ?_; intro A23 cap24 o25 w hC hB hO26
 refine V_ (opFieldAddr rfl fo24_1) ?_
 refine wlStore 0 (vs := [(.slice A23 (((((([] ++ [1]) ++ [2]) ++ [3]) ++ [4])).length) cap24)]) (cs := [(.int .i64 2), (.slice A17 ((((([] ++ [1]) ++ [2]) ++ [3])).length) cap18)]) (cs' := [(.int .i64 2), (.slice A23 (((((([] ++ [1]) ++ [2]) ++ [3]) ++ [4])).length) cap24)]) hC hB rfl rfl rfl sz22 rfl rfl rfl (by simp [cl_]) rfl rfl ?_; intro w hC hB
 replace hB : Bxs G w w0.heap.size ([(b2, 24, [(.int .i64 2), (.slice A23 (((((([] ++ [1]) ++ [2]) ++ [3]) ++ [4])).length) cap24)]), (b1, 24, [(.int .i64 0), (.slice none 0 0)])] ++ (Option.toList o25 ++ [])) := hB
 refine wlNil <| wcOf <| wcRegion <| M_ rfl <| V_ (OpVal.cast (v' := .int .i64 5) (opAdd rfl rfl) (congrArg (Value.int .i64) (by decide))) <| A_ rfl <| wlRound <| wrSucc ?_
 refine wcSeq (wcSeq (wcRegion ?_))
 refine M_ rfl <| M_ rfl <| V_ (OpVal.cast (v' := .int .i64 6) (opMul rfl rfl) (congrArg (Value.int .i64) (by decide))) <| V_ (OpVal.cast (v' := .int .i64 7) (opAdd rfl rfl) (congrArg (Value.int .i64) (by decide))) <| V_ (opLeq rfl rfl) <| wlThen <| wcCondT rfl <| wcSkip <| wcOf <| wcSeq <| wcBlock <| wcRegion <| V_ (opFieldAddr rfl fo24_1) <| V_ (opLoadOne (v := (.slice A23 (((((([] ++ [1]) ++ [2]) ++ [3]) ++ [4])).length) cap24)) rfl (hB.cell (i := 0) rfl rfl) one22) <| M_ rfl ?_
 refine wlBuildSlice (α := Int) (ps := [(0, .tmp 16)]) (xs := [5]) (rows := [[(.int .i64 5)]]) elo22 rfl rfl hC hB rfl rfl rfl ⟨rfl, trivial⟩ rfl ?_; intro b27 G w hk hC hB hs28
 replace hO26 := hO26.mono hk.gle
 refine wlAppend (α := Int) (bl := [(b2, 24, [(.int .i64 2), (.slice A23 (((((([] ++ [1]) ++ [2]) ++ [3]) ++ [4])).length) cap24)]), (b1, 24, [(.int .i64 0), (.slice none 0 0)])]) (o := o25) (r := []) elo22 hC hB rfl rfl hO26 hs28 (by simp) rfl rfl ?_; intro A29 cap30 o31 w hC hB hO32
 refine V_ (opFieldAddr rfl fo24_1) ?_
 refine wlStore 0 (vs := [(.slice A29 ((((((([] ++ [1]) ++ [2]) ++ [3]) ++ [4]) ++ [5])).length) cap30)]) (cs := [(.int .i64 2), (.slice A23 (((((([] ++ [1]) ++ [2]) ++ [3]) ++ [4])).length) cap24)]) (cs' := [(.int .i64 2), (.slice A29 ((((((([] ++ [1]) ++ [2]) ++ [3]) ++ [4]) ++ [5])).length) cap30)]) hC hB rfl rfl rfl sz22 rfl rfl rfl (by simp [cl_]) rfl rfl ?_; intro w hC hB
 replace hB : Bxs G w w0.heap.size ([(b2, 24, [(.int .i64 2), (.slice A29 ((((((([] ++ [1]) ++ [2]) ++ [3]) ++ [4]) ++ [5])).length) cap30)]), (b1, 24, [(.int .i64 0), (.slice none 0 0)])] ++ (Option.toList o31 ++ [])) := hB
 refine wlNil <| wcOf <| wcRegion <| M_ rfl <| V_ (OpVal.cast (v' := .int .i64 6) (opAdd rfl rfl) (congrArg (Value.int .i64) (by decide))) <| A_ rfl <| wlRound <| wrSucc ?_
 refine wcSeq (wcSeq (wcRegion ?_))
 refine M_ rfl <| M_ rfl <| V_ (OpVal.cast (v' := .int .i64 6) (opMul rfl rfl) (congrArg (Value.int .i64) (by decide))) <| V_ (OpVal.cast (v' := .int .i64 7) (opAdd rfl rfl) (congrArg (Value.int .i64) (by decide))) <| V_ (opLeq rfl rfl) <| wlThen <| wcCondT rfl <| wcSkip <| wcOf <| wcSeq <| wcBlock <| wcRegion <| V_ (opFieldAddr rfl fo24_1) <| V_ (opLoadOne (v := (.slice A29 ((((((([] ++ [1]) ++ [2]) ++ [3]) ++ [4]) ++ [5])).length) cap30)) rfl (hB.cell (i := 0) rfl rfl) one22) <| M_ rfl ?_
 refine wlBuildSlice (α := Int) (ps := [(0, .tmp 16)]) (xs := [6]) (rows := [[(.int .i64 6)]]) elo22 rfl rfl hC hB rfl rfl rfl ⟨rfl, trivial⟩ rfl ?_; intro b33 G w hk hC hB hs34
 replace hO32 := hO32.mono hk.gle
 refine wlAppend (α := Int) (bl := [(b2, 24, [(.int .i64 2), (.slice A29 ((((((([] ++ [1]) ++ [2]) ++ [3]) ++ [4]) ++ [5])).length) cap30)]), (b1, 24, [(.int .i64 0), (.slice none 0 0)])]) (o := o31) (r := []) elo22 hC hB rfl rfl hO32 hs34 (by simp) rfl rfl ?_; intro A35 cap36 o37 w hC hB hO38
 refine V_ (opFieldAddr rfl fo24_1) ?_
 refine wlStore 0 (vs := [(.slice A35 (((((((([] ++ [1]) ++ [2]) ++ [3]) ++ [4]) ++ [5]) ++ [6])).length) cap36)]) (cs := [(.int .i64 2), (.slice A29 ((((((([] ++ [1]) ++ [2]) ++ [3]) ++ [4]) ++ [5])).length) cap30)]) (cs' := [(.int .i64 2), (.slice A35 (((((((([] ++ [1]) ++ [2]) ++ [3]) ++ [4]) ++ [5]) ++ [6])).length) cap36)]) hC hB rfl rfl rfl sz22 rfl rfl rfl (by simp [cl_]) rfl rfl ?_; intro w hC hB
 replace hB : Bxs G w w0.heap.size ([(b2, 24, [(.int .i64 2), (.slice A35 (((((((([] ++ [1]) ++ [2]) ++ [3]) ++ [4]) ++ [5]) ++ [6])).length) cap36)]), (b1, 24, [(.int .i64 0), (.slice none 0 0)])] ++ (Option.toList o37 ++ [])) := hB
 refine wlNil <| wcOf <| wcRegion <| M_ rfl <| V_ (OpVal.cast (v' := .int .i64 7) (opAdd rfl rfl) (congrArg (Value.int .i64) (by decide))) <| A_ rfl <| wlRound <| wrSucc ?_
 refine wcSeq (wcSeq (wcRegion ?_))
 refine M_ rfl <| M_ rfl <| V_ (OpVal.cast (v' := .int .i64 6) (opMul rfl rfl) (congrArg (Value.int .i64) (by decide))) <| V_ (OpVal.cast (v' := .int .i64 7) (opAdd rfl rfl) (congrArg (Value.int .i64) (by decide))) <| V_ (opLeq rfl rfl) <| wlThen <| wcCondT rfl <| wcSkip <| wcOf <| wcSeq <| wcBlock <| wcRegion <| V_ (opFieldAddr rfl fo24_1) <| V_ (opLoadOne (v := (.slice A35 (((((((([] ++ [1]) ++ [2]) ++ [3]) ++ [4]) ++ [5]) ++ [6])).length) cap36)) rfl (hB.cell (i := 0) rfl rfl) one22) <| M_ rfl ?_
 refine wlBuildSlice (α := Int) (ps := [(0, .tmp 16)]) (xs := [7]) (rows := [[(.int .i64 7)]]) elo22 rfl rfl hC hB rfl rfl rfl ⟨rfl, trivial⟩ rfl ?_; intro b39 G w hk hC hB hs40
 replace hO38 := hO38.mono hk.gle
 refine wlAppend (α := Int) (bl := [(b2, 24, [(.int .i64 2), (.slice A35 (((((((([] ++ [1]) ++ [2]) ++ [3]) ++ [4]) ++ [5]) ++ [6])).length) cap36)]), (b1, 24, [(.int .i64 0), (.slice none 0 0)])]) (o := o37) (r := []) elo22 hC hB rfl rfl hO38 hs40 (by simp) rfl rfl ?_; intro A41 cap42 o43 w hC hB hO44
 refine V_ (opFieldAddr rfl fo24_1) ?_
 refine wlStore 0 (vs := [(.slice A41 ((((((((([] ++ [1]) ++ [2]) ++ [3]) ++ [4]) ++ [5]) ++ [6]) ++ [7])).length) cap42)]) (cs := [(.int .i64 2), (.slice A35 (((((((([] ++ [1]) ++ [2]) ++ [3]) ++ [4]) ++ [5]) ++ [6])).length) cap36)]) (cs' := [(.int .i64 2), (.slice A41 ((((((((([] ++ [1]) ++ [2]) ++ [3]) ++ [4]) ++ [5]) ++ [6]) ++ [7])).length) cap42)]) hC hB rfl rfl rfl sz22 rfl rfl rfl (by simp [cl_]) rfl rfl ?_; intro w hC hB
 replace hB : Bxs G w w0.heap.size ([(b2, 24, [(.int .i64 2), (.slice A41 ((((((((([] ++ [1]) ++ [2]) ++ [3]) ++ [4]) ++ [5]) ++ [6]) ++ [7])).length) cap42)]), (b1, 24, [(.int .i64 0), (.slice none 0 0)])] ++ (Option.toList o43 ++ [])) := hB
 refine wlNil <| wcOf <| wcRegion <| M_ rfl <| V_ (OpVal.cast (v' := .int .i64 8) (opAdd rfl rfl) (congrArg (Value.int .i64) (by decide))) <| A_ rfl <| wlRound <| wrSucc ?_
 refine wcSeq (wcSeq (wcRegion ?_))
 refine M_ rfl <| M_ rfl <| V_ (OpVal.cast (v' := .int .i64 6) (opMul rfl rfl) (congrArg (Value.int .i64) (by decide))) <| V_ (OpVal.cast (v' := .int .i64 7) (opAdd rfl rfl) (congrArg (Value.int .i64) (by decide))) <| V_ (opLeq rfl rfl) <| wlThen <| wcCondF rfl <| wcExit <| wcOf <| wcSeq <| wcRegion <| V_ (opLoadRow (cs := [(.int .i64 2), (.slice A41 ((((((((([] ++ [1]) ++ [2]) ++ [3]) ++ [4]) ++ [5]) ++ [6]) ++ [7])).length) cap42)]) rfl (hB.range (i := 0) (m := 2) rfl rfl) row24 rfl) ?_
 refine wlStore 1 (vs := [(.int .i64 2), (.slice A41 ((((((((([] ++ [1]) ++ [2]) ++ [3]) ++ [4]) ++ [5]) ++ [6]) ++ [7])).length) cap42)]) (cs := [(.int .i64 0), (.slice none 0 0)]) (cs' := [(.int .i64 2), (.slice A41 ((((((((([] ++ [1]) ++ [2]) ++ [3]) ++ [4]) ++ [5]) ++ [6]) ++ [7])).length) cap42)]) hC hB rfl rfl rfl sz24 rfl rfl rfl (by simp [cl_]) rfl rfl ?_; intro w hC hB
 replace hB : Bxs G w w0.heap.size ([(b2, 24, [(.int .i64 2), (.slice A41 ((((((((([] ++ [1]) ++ [2]) ++ [3]) ++ [4]) ++ [5]) ++ [6]) ++ [7])).length) cap42)]), (b1, 24, [(.int .i64 2), (.slice A41 ((((((((([] ++ [1]) ++ [2]) ++ [3]) ++ [4]) ++ [5]) ++ [6]) ++ [7])).length) cap42)])] ++ (Option.toList o43 ++ [])) := hB
 refine wlThen <| wcRet ?_
 obtain ⟨G, hg46, hC, hB, hs45⟩ := Ow.freeze' (bl := [(b2, 24, [(.int .i64 2), (.slice A41 ((((((((([] ++ [1]) ++ [2]) ++ [3]) ++ [4]) ++ [5]) ++ [6]) ++ [7])).length) cap42)]), (b1, 24, [(.int .i64 2), (.slice A41 ((((((((([] ++ [1]) ++ [2]) ++ [3]) ++ [4]) ++ [5]) ++ [6]) ++ [7])).length) cap42)])]) (r := []) hO44 hC (Nat.le_refl _) hB (by simp [maxL])
 exact fun ac_ ha => hQ _ _ _ (results1 ha rfl ⟨_, _, [(.int .i64 2), (.slice A41 ((((((((([] ++ [1]) ++ [2]) ++ [3]) ++ [4]) ++ [5]) ++ [6]) ++ [7])).length) cap42)], rfl, row24, rfl, hB.range (i := 1) (m := 2) rfl rfl, rfl⟩) ha.df (endG hC ⟨_, rfl, (Crew.mkIs (x := (Crew.mk 2 (((((((([] ++ [1]) ++ [2]) ++ [3]) ++ [4]) ++ [5]) ++ [6]) ++ [7])))) hs45)⟩)

theorem viewMay_ret (G0 : Gh) (w0 : World) (hw : Holds G0 w0) (v : Int) :
  RetS Tryz.prog 49 #[.int .i64 v] G0 w0 (.bool (viewB v)) := by
 have hC := Cx.refl hw
 have hB : Bxs G0 w0 w0.heap.size [] := Bxs.nil _ _ _
 refine callsOf Tryz.func49 rfl _ Tryz.ntmps49 rfl _ (argsCons argsNil (t := 0) rfl) ?_; intro Q0 hQ
 refine wcSeq <| wcRegion <| A_ rfl ?_
 refine wlThen (wcSeq (wcRegion ?_))
 refine M_ rfl <| V_ (opLeq rfl rfl) <| M_ rfl ?_
 cases h1 : decide (0 ≤ v)
 ·
  refine wlOff rfl rfl rfl rfl <| wlOff rfl rfl rfl rfl <| V_ (opPickF rfl rfl) <| A_ rfl <| wlThen <| wcRet ?_
  exact r1_ hQ rfl rfl (endS hC hw (by simp [viewB, h1]))
 ·
  refine wlOn rfl rfl <| M_ rfl <| wlOn rfl rfl <| V_ (opLeq rfl rfl) <| V_ (opPickT rfl rfl) <| A_ rfl <| wlThen <| wcRet ?_
  exact r1_ hQ rfl rfl (endS hC hw (by simp [viewB, h1]))

theorem lowMay_ret (G0 : Gh) (w0 : World) (hw : Holds G0 w0) (v : Int) :
  RetS Tryz.prog 25 #[.int .i64 v] G0 w0 (.bool (lowB v)) := by
 have hC := Cx.refl hw
 have hB : Bxs G0 w0 w0.heap.size [] := Bxs.nil _ _ _
 refine callsOf Tryz.func25 rfl _ Tryz.ntmps25 rfl _ (argsCons argsNil (t := 0) rfl) ?_; intro Q0 hQ
 refine wcSeq <| wcRegion <| A_ rfl ?_
 refine wlThen (wcSeq (wcRegion ?_))
 refine M_ rfl <| V_ (opLeq rfl rfl) <| M_ rfl ?_
 cases h1 : decide (0 ≤ v)
 ·
  refine wlOff rfl rfl rfl rfl <| wlOff rfl rfl rfl rfl <| V_ (opPickF rfl rfl) <| A_ rfl <| wlThen <| wcRet ?_
  exact r1_ hQ rfl rfl (endS hC hw (by simp [lowB, h1]))
 ·
  refine wlOn rfl rfl <| M_ rfl <| wlOn rfl rfl <| V_ (opLeq rfl rfl) <| V_ (opPickT rfl rfl) <| A_ rfl <| wlThen <| wcRet ?_
  exact r1_ hQ rfl rfl (endS hC hw (by simp [lowB, h1]))

theorem digest_ret (G0 : Gh) (w0 : World) (hw : Holds G0 w0) (b : UInt8) :
  RetS Tryz.prog 21 #[.int .u8 (b.toNat : Int)] G0 w0 (.agg ((digN b)).cells.toArray) := by
 have hC := Cx.refl hw
 have hB : Bxs G0 w0 w0.heap.size [] := Bxs.nil _ _ _
 refine callsOf Tryz.func21 rfl _ Tryz.ntmps21 rfl _ (argsCons argsNil (t := 0) rfl) ?_; intro Q0 hQ
 refine wcSeq <| wcRegion ?_
 refine wlAlloc hC hB zero37 rfl ?_; intro b1 w hk hC hB
 refine wlThen (wcSeq (wcRegion ?_))
 refine M_ rfl <| V_ (opBuildArr (ps := [(0, .tmp 3), (1, .const (.int .u8 1))]) (cs := ((digN b)).cells) ar37 zero37 rfl rfl (by first | rfl | simp [buildA, Value.cells])) ?_
 refine wlStore 0 (vs := ((digN b)).cells) (cs := Dig.zero.cells) (cs' := ((digN b)).cells) hC hB rfl rfl rfl sz37 rfl (by simp [cl_]) (by simp [cl_, Value.oneCell']) (by simp [cl_]) (by simp [cl_]) rfl ?_; intro w hC hB
 refine wlThen <| wcRet ?_
 exact fun ac_ ha => hQ _ _ _ (results1 ha rfl ⟨_, _, ((digN b)).cells, rfl, row37, (by simp [cl_]), hB.range (i := 0) (m := 32) rfl (by simp [cl_]), rfl⟩) ha.df (endS hC hw rfl)

theorem order_ret (G0 : Gh) (w0 : World) (hw : Holds G0 w0) (a : Stand) (b : Stand) :
  RetS Tryz.prog 54 #[.agg a.cells.toArray, .agg b.cells.toArray] G0 w0 (.int .i64 ((ordS a b))) := by
 have hC := Cx.refl hw
 have hB : Bxs G0 w0 w0.heap.size [] := Bxs.nil _ _ _
 refine callsOf Tryz.func54 rfl _ Tryz.ntmps54 rfl _ (argsCons (argsCons argsNil (t := 0) rfl) (t := 1) rfl) ?_; intro Q0 hQ
 refine wcSeq <| wcRegion ?_
 refine wlBox (cs := a.cells) hC hB rfl rfl rfl ?_; intro b1 w hk hC hB
 refine wlBox (cs := b.cells) hC hB rfl rfl rfl ?_; intro b2 w hk hC hB
 refine A_ rfl <| wlThen <| wcSeq ?_
 refine wcDrawS 18 [0, 1, 0, 4, 15, 0, 32, 0, 128, 511, 0, 1024, 0, 4096, 16383, 32767, 65535, 131071] fmix (by kernel_rfl) (by kernel_rfl) rfl hC hB ?_; intro w hC hB
 refine D_ 0 rfl rfl (fun _ => (opFieldAddr rfl fo44_0)) <| E_ 1 rfl rfl (opLoadOne (v := (.int .i64 a.seq)) rfl (hB.cell (i := 1) rfl (by simp [cl_])) one3) <| D_ 2 rfl rfl (fun _ => (opFieldAddr rfl fo44_0)) <| E_ 3 rfl rfl (opLoadOne (v := (.int .i64 b.seq)) rfl (hB.cell (i := 0) rfl (by simp [cl_])) one3) <| D_ 5 rfl rfl (fun _ => (opFieldAddr rfl fo44_2)) <| E_ 6 rfl rfl (opLoadOne (v := (.int .i64 a.view)) rfl (hB.cell (i := 1) rfl (by simp [cl_])) one3) <| D_ 7 rfl rfl (fun _ => (opFieldAddr rfl fo44_2)) <| E_ 8 rfl rfl (opLoadOne (v := (.int .i64 b.view)) rfl (hB.cell (i := 0) rfl (by simp [cl_])) one3) <| D_ 10 rfl rfl (fun _ => (opFieldAddr rfl fo44_1)) <| D_ 11 rfl rfl (fun _ => (opSliceArrO by37 rfl)) <| D_ 12 rfl rfl (fun _ => (opFieldAddr rfl fo44_1)) <| D_ 13 rfl rfl (fun _ => (opSliceArrO by37 rfl)) ?_
 refine wdAll [4] (by kernel_rfl) rfl ⟨wd1 rfl ?_, trivial⟩
 intro hGd
 refine wlCallS hC hB rfl co83 rfl rfl (compare_ret _ _ hC.holds a.seq b.seq) ?_; intro w hk hC hB
 refine wdNext hGd rfl (kpKeep rfl (kpKeep rfl (kpDrop rfl (kpDrop rfl kpNil)))) (Tk.cons (p := (_, fun w => OpVal _ _ _ w _ _)) (opLoadOne (v := (.int .i64 b.view)) rfl (hB.cell (i := 0) rfl (by simp [cl_])) one3) (Tk.cons (p := (_, fun w => OpVal _ _ _ w _ _)) (opLoadOne (v := (.int .i64 a.view)) rfl (hB.cell (i := 1) rfl (by simp [cl_])) one3) (Tk.nil _))) ?_
 refine wdAll [9] (by kernel_rfl) rfl ⟨wd1 rfl ?_, trivial⟩
 intro hGd
 refine wlCallS hC hB rfl co83 rfl rfl (compare_ret _ _ hC.holds a.view b.view) ?_; intro w hk hC hB
 refine wdNext hGd rfl (kpDrop rfl (kpDrop rfl kpNil)) (Tk.nil _) ?_
 refine wdAll [14] (by kernel_rfl) rfl ⟨wd1 rfl ?_, trivial⟩
 intro hGd
 refine wlCallS hC hB rfl co84 rfl rfl (RetS.lendB hC.holds hB (fun G_ hg_ hh_ hL_ => bcmp_ret _ _ hh_ _ a.dig.l (Sl.ofDig' (o := 1) (by simpa using RowG.part (i := 1) (m := 32) (HasO.row (hL_ (b1, 44, a.cells) (by simp))) (by simp [cl_]))) _ b.dig.l (Sl.ofDig' (o := 1) (by simpa using RowG.part (i := 1) (m := 32) (HasO.row (hL_ (b2, 44, b.cells) (by simp))) (by simp [cl_]))))) ?_; intro w hk hC hB
 refine wdNext hGd rfl kpNil (Tk.nil _) ?_
 refine wdAll [15] (by kernel_rfl) rfl ⟨wd1 rfl ?_, trivial⟩
 intro hGd
 refine wlBuildSlice (α := Int) (ps := [(0, .tmp 9), (1, .tmp 14), (2, .tmp 19)]) (xs := [(cmpI a.seq b.seq), (cmpI a.view b.view), (cmpB a.dig.l b.dig.l)]) (rows := [[(.int .i64 ((cmpI a.seq b.seq)))], [(.int .i64 ((cmpI a.view b.view)))], [(.int .i64 ((cmpB a.dig.l b.dig.l)))]]) elo22 rfl rfl hC hB rfl rfl rfl ⟨rfl, rfl, rfl, trivial⟩ rfl ?_; intro b3 G w hk hC hB hs4
 refine wdNext hGd rfl kpNil (Tk.nil _) ?_
 refine wdAll [16] (by kernel_rfl) rfl ⟨wd1 rfl ?_, trivial⟩
 intro hGd
 refine wlCallS hC hB rfl co82 rfl rfl (or_ret _ _ hC.holds _ ([(cmpI a.seq b.seq), (cmpI a.view b.view), (cmpB a.dig.l b.dig.l)]) hs4) ?_; intro w hk hC hB
 refine wdNext hGd rfl kpNil (Tk.nil _) ?_
 refine D_ 17 rfl rfl (fun _ => opAssign rfl) <| wdDone (by kernel_rfl) <| wcOf <| wcRet ?_
 exact r1_ hQ rfl rfl (endS hC hw rfl)

theorem len64_ret (G0 : Gh) (w0 : World) (hw : Holds G0 w0) (x : Nat) (hx : x ≤ 12) :
  RetS Tryz.prog 98 #[.int .u64 ((x : Nat) : Int)] G0 w0 (.int .i64 (((len8 x : Nat) : Int))) := by
 have hC := Cx.refl hw
 have hB : Bxs G0 w0 w0.heap.size [] := Bxs.nil _ _ _
 refine callsOf Tryz.func98 rfl _ Tryz.ntmps98 rfl _ (argsCons argsNil (t := 0) rfl) ?_; intro Q0 hQ
 refine wcSeq <| wcRegion <| A_ rfl ?_
 refine wlThen (wcSeq (wcSeq (wcRegion ?_)))
 refine M_ rfl <| V_ (opGeq rfl rfl) <| wlThen ?_
 cases h1 : decide (4294967296 ≤ ((x : Nat) : Int))
 ·
  refine wcCondF rfl <| wcSkip <| wcOf ?_
  refine wcSeq (wcSeq (wcRegion ?_))
  refine M_ rfl <| V_ (opGeq rfl rfl) <| wlThen ?_
  cases h2 : decide (65536 ≤ ((x : Nat) : Int))
  ·
   refine wcCondF rfl <| wcSkip <| wcOf ?_
   refine wcSeq (wcSeq (wcRegion ?_))
   refine M_ rfl <| V_ (opGeq rfl rfl) <| wlThen ?_
   cases h3 : decide (256 ≤ ((x : Nat) : Int))
   ·
    refine wcCondF rfl <| wcSkip <| wcOf <| wcSeq <| wcRegion <| M_ rfl <| M_ rfl <| V_ (opConvN rfl un127 ui5 (wrap_u8_nat (by omega))) <| V_ (opIndexStr st9 rfl rfl (len8_at (by kernel_rfl) hx)) <| V_ (opConvN rfl un5 ui3 (wrap_i64_nat (len8_lt x))) <| V_ (opAdd rfl rfl) <| A_ rfl <| wlThen <| wcRet ?_
    exact r1_ hQ rfl rfl (endS hC hw (congrArg (Value.int .i64) (len8_fin x)))
   ·
    exact (by have q := of_decide_eq_true h3; omega : False).elim
  ·
   exact (by have q := of_decide_eq_true h2; omega : False).elim
 ·
  exact (by have q := of_decide_eq_true h1; omega : False).elim

theorem len_ret (G0 : Gh) (w0 : World) (hw : Holds G0 w0) (x : Nat) (hx : x ≤ 12) :
  RetS Tryz.prog 81 #[.int .u64 ((x : Nat) : Int)] G0 w0 (.int .i64 (((len8 x : Nat) : Int))) := by
 have hC := Cx.refl hw
 have hB : Bxs G0 w0 w0.heap.size [] := Bxs.nil _ _ _
 refine callsOf Tryz.func81 rfl _ Tryz.ntmps81 rfl _ (argsCons argsNil (t := 0) rfl) ?_; intro Q0 hQ
 refine wcSeq <| wcRegion <| A_ rfl <| wlThen <| wcSeq <| wcCondF rfl <| wcSkip <| wcOf <| wcSeq <| wcRegion <| M_ rfl ?_
 refine wlCallS hC hB rfl co98 rfl rfl (len64_ret _ _ hC.holds x hx) ?_; intro w hk hC hB
 refine A_ rfl <| wlThen <| wcRet ?_
 exact r1_ hQ rfl rfl (endS hC hw rfl)

theorem isort_ret (G0 : Gh) (w0 : World) (hw : Holds G0 w0) (vs : Value) (s : List Stand) (os : Option Bx) (hs : Ow G0 os 44 vs s) (hBs : Bxs G0 w0 w0.heap.size (Option.toList os) ((Option.toList os).map (·.1))) (n : Nat) (ff : FuncId) (cf : List Value) (pf : Stand → Stand → Int) (kf : callOk Tryz.prog ff = true) (hf : ∀ (G : Gh) (w : World) (f_x0 : Stand) (f_x1 : Stand), GLe G0 G → Holds G w → RetS Tryz.prog ff ([Value.agg f_x0.cells.toArray, Value.agg f_x1.cells.toArray] ++ cf).toArray G w (.int .i64 (pf f_x0 f_x1))) (hpos : 0 < s.length) (hln : n = s.length) (hsm : s.length ≤ 12) :
  RetP Tryz.prog 89 #[vs, .int .i64 0, .int .i64 ((n : Nat) : Int), .func (.func ff) #[] cf.toArray] G0 w0 ((Option.toList os).map (·.1)) (fun G o v => v = .tuple #[] ∧ Ow G o 44 vs ((isortG pf s))) := by
 have hC := Cx.reflM ((Option.toList os).map (·.1)) hw
 have hB : Bxs G0 w0 w0.heap.size ([] ++ (Option.toList os ++ [])) ((Option.toList os).map (·.1)) := by simpa using hBs
 obtain ⟨A1, cap2, rfl⟩ := hs.form
 obtain ⟨g3, so4, cs5, rfl, rfl⟩ := hs.addr hpos
 refine callsOfN Tryz.func89 rfl _ Tryz.ntmps89 rfl _ (argsCons (argsCons (argsCons (argsCons argsNil (t := 0) rfl) (t := 1) rfl) (t := 2) rfl) (t := 3) rfl) ?_; intro Q0 hQ hN
 refine wcSeq <| wcRegion <| M_ rfl <| V_ (OpVal.cast (v' := .int .i64 1) (opAdd rfl rfl) (congrArg (Value.int .i64) (by decide))) <| A_ rfl <| wlThen <| wcBlock ?_
 refine WC.sub (wrInd (ι := Nat × (List Value) × (List Stand)) (fun i => match i with | (oi, ulC, ul) => n - oi) (fun i G w => match i with | (oi, ulC, ul) => Cx w0 G0 G w ⟨((Option.toList (some (g3, 44, cs5))).map (·.1)), []⟩ ∧ Bxs G w w0.heap.size ([] ++ (Option.toList ((some (g3, 44, ulC))) ++ [])) ⟨((Option.toList (some (g3, 44, cs5))).map (·.1)), []⟩ ∧ Ow G (some (g3, 44, ulC)) 44 (.slice (some ⟨g3, so4, none⟩) s.length cap2) ul ∧ ul.length = s.length ∧ isI pf (n - oi) oi ul = isortG pf s) (fun i => match i with | (oi, ulC, ul) => (((((Env.nil.put 0 (.slice (some ⟨g3, so4, none⟩) s.length cap2)).put 1 (.int .i64 0)).put 2 (.int .i64 (((n : Nat) : Int)))).put 3 (.func (.func ff) #[] cf.toArray)).put 8 (.int .i64 (((oi : Nat) : Int))))) ?_ (1, cs5, s) _ _ ⟨hC, hB, hs, rfl, (by rw [hln]; rfl)⟩) (fun _ ha => (((((ha.start.c ha 0 rfl).c ha 1 rfl).c ha 2 rfl).c ha 3 rfl).c ha 8 rfl))
 rintro ⟨oi, ulC, ul⟩ G w N0 IH0 ⟨hC, hB, hOul, hul, hI⟩
 refine wcSeq (wcSeq (wcRegion ?_))
 refine M_ rfl <| M_ rfl <| V_ (opLssN rfl rfl) <| wlThen ?_
 cases h6 : decide (oi < n)
 ·
  refine wcCondF rfl <| wcExit ?_
  exact fun ac_ ha => hN _ _ _ (results0 ha rfl) ha.df (endP (bl := []) (o := (some (g3, 44, ulC))) (r := []) hC hB ⟨rfl, (by rw [← is_end hI h6]; exact hOul)⟩)
 ·
  refine wcCondT rfl <| wcSkip <| wcOf <| wcSeq ?_
  refine wcBlock (wcSeq (wcRegion ?_))
  refine M_ rfl <| A_ rfl <| wlThen <| wcBlock ?_
  refine WC.sub (wrInd (ι := Nat × (List Value) × (List Stand)) (fun i => match i with | (j, wlC, wl) => j) (fun i G w => match i with | (j, wlC, wl) => Cx w0 G0 G w ⟨((Option.toList (some (g3, 44, cs5))).map (·.1)), []⟩ ∧ Bxs G w w0.heap.size ([] ++ (Option.toList ((some (g3, 44, wlC))) ++ [])) ⟨((Option.toList (some (g3, 44, cs5))).map (·.1)), []⟩ ∧ Ow G (some (g3, 44, wlC)) 44 (.slice (some ⟨g3, so4, none⟩) s.length cap2) wl ∧ wl.length = s.length ∧ j ≤ oi ∧ isJ pf j wl = isJ pf oi ul) (fun i => match i with | (j, wlC, wl) => ((((((Env.nil.put 0 (.slice (some ⟨g3, so4, none⟩) s.length cap2)).put 1 (.int .i64 0)).put 2 (.int .i64 (((n : Nat) : Int)))).put 3 (.func (.func ff) #[] cf.toArray)).put 8 (.int .i64 (((oi : Nat) : Int)))).put 9 (.int .i64 (((j : Nat) : Int))))) ?_ (oi, ulC, ul) _ _ ⟨hC, hB, hOul, hul, (Nat.le_refl _), rfl⟩) (fun _ ha => ((((((ha.start.c ha 0 rfl).c ha 1 rfl).c ha 2 rfl).c ha 3 rfl).c ha 8 rfl).c ha 9 rfl))
  rintro ⟨j, wlC, wl⟩ G w N1 IH1 ⟨hC, hB, hOwl, hwl, hj, hJ⟩
  refine wcSeq <| wcSeq ?_
  refine wcDrawS 17 [0, 0, 3, 7, 15, 15, 15, 111, 239, 15, 15, 1039, 3599, 7695, 16383, 32767, 65535] fmix (by kernel_rfl) (by kernel_rfl) rfl hC hB ?_; intro w hC hB
  refine D_ 0 rfl rfl (fun _ => opMove rfl) <| D_ 1 rfl rfl (fun _ => opMove rfl) <| D_ 2 rfl rfl (fun _ => opGtr rfl rfl) <| D_ 3 rfl rfl (fun _ => opMove rfl) ?_
  cases h7 : decide (0 < ((j : Nat) : Int))
  ·
   refine O_ 4 rfl rfl rfl rfl rfl <| O_ 5 rfl rfl rfl rfl rfl <| O_ 6 rfl rfl rfl rfl rfl <| O_ 7 rfl rfl rfl rfl rfl <| O_ 8 rfl rfl rfl rfl rfl <| O_ 9 rfl rfl rfl rfl rfl <| O_ 10 rfl rfl rfl rfl rfl <| O_ 11 rfl rfl rfl rfl rfl <| O_ 12 rfl rfl rfl rfl rfl <| O_ 13 rfl rfl rfl rfl rfl <| O_ 14 rfl rfl rfl rfl rfl <| O_ 15 rfl rfl rfl rfl rfl <| D_ 16 rfl rfl (fun _ => opPickF rfl rfl) <| wdDone (by kernel_rfl) <| wcOf <| wcCondF rfl <| wcExit <| wcOf <| wcRegion <| M_ rfl ?_
   refine V_ (opIncr rfl rfl (is_sm hln hsm (Nat.le_refl _) h6)) <| A_ rfl <| wlRound ?_
   exact (IH0 (oi + 1, wlC, wl) _ _ ⟨hC, hB, hOwl, hwl, (is_out hI h6 hJ (is_stop0 h7))⟩ (by have := of_decide_eq_true h6; simp; omega)).sub (fun _ ha => (((((ha.start.c ha 0 rfl).c ha 1 rfl).c ha 2 rfl).c ha 3 rfl).c ha 8 rfl))
  ·
   refine DG_ 4 rfl rfl rfl rfl (fun _ => opMove rfl) <| DG_ 5 rfl rfl rfl rfl (fun _ => opMove rfl) <| DG_ 6 rfl rfl rfl rfl (fun _ => opMove rfl) ?_
   obtain ⟨x8, hx9⟩ : ∃ y_, wl[j]? = some y_ := ⟨_, List.getElem?_eq_getElem (by have q := of_decide_eq_true h6; (try simp only [List.length_set]); omega)⟩
   refine DG_ 7 rfl rfl rfl rfl (fun _ => (opIndexAddr rfl rfl slo38 (by have q := of_decide_eq_true h6; (try simp only [List.length_set]); omega))) ?_
   obtain ⟨row10, hr11, hi12, hl13⟩ := Ow.elemAt (bl := []) (r := []) hOwl hB hx9; obtain rfl := hi12
   refine EG_ 8 rfl rfl rfl rfl (opLoadRow (cs := x8.cells) rfl hr11 row44 (by simp [cl_])) <| DG_ 9 rfl rfl rfl rfl (fun _ => opMove rfl) <| DG_ 10 rfl rfl rfl rfl (fun _ => opMove rfl) <| DG_ 11 rfl rfl rfl rfl (fun _ => (opDecr rfl rfl (Int.ofNat_lt.1 (of_decide_eq_true h7)) (is_sm hln hsm hj h6))) ?_
   obtain ⟨x14, hx15⟩ : ∃ y_, wl[(j - 1)]? = some y_ := ⟨_, List.getElem?_eq_getElem (by have q := of_decide_eq_true h6; (try simp only [List.length_set]); omega)⟩
   refine DG_ 12 rfl rfl rfl rfl (fun _ => (opIndexAddr rfl rfl slo38 (by have q := of_decide_eq_true h6; (try simp only [List.length_set]); omega))) ?_
   obtain ⟨row16, hr17, hi18, hl19⟩ := Ow.elemAt (bl := []) (r := []) hOwl hB hx15; obtain rfl := hi18
   refine EG_ 13 rfl rfl rfl rfl (opLoadRow (cs := x14.cells) rfl hr17 row44 (by simp [cl_])) ?_
   refine wdAll [14] (by kernel_rfl) rfl ⟨wd1 rfl ?_, trivial⟩
   intro hGd
   refine wlOn rfl rfl ?_
   refine wlCallS hC hB rfl kf rfl rfl (hf _ _ x8 x14 hC.gle hC.holds ) ?_; intro w hk hC hB
   refine wdNext hGd rfl (kpDrop rfl (kpDrop rfl kpNil)) (Tk.nil _) ?_
   refine DG_ 15 rfl rfl rfl rfl (fun _ => opLss rfl rfl) <| D_ 16 rfl rfl (fun _ => opPickT rfl rfl) <| wdDone (by kernel_rfl) <| wcOf ?_
   cases h20 : decide ((pf x8 x14) < 0)
   ·
    refine wcCondF rfl <| wcExit <| wcOf <| wcRegion <| M_ rfl <| V_ (opIncr rfl rfl (is_sm hln hsm (Nat.le_refl _) h6)) <| A_ rfl <| wlRound ?_
    exact (IH0 (oi + 1, wlC, wl) _ _ ⟨hC, hB, hOwl, hwl, (is_out hI h6 hJ (is_stop h7 hx9 hx15 h20))⟩ (by have := of_decide_eq_true h6; have := of_decide_eq_true h7; simp; omega)).sub (fun _ ha => (((((ha.start.c ha 0 rfl).c ha 1 rfl).c ha 2 rfl).c ha 3 rfl).c ha 8 rfl))
   ·
    refine wcCondT rfl <| wcSkip <| wcOf <| wcSeq <| wcBlock ?_
    refine wcDrawS 18 [0, 0, 0, 0, 8, 0, 0, 64, 224, 480, 0, 0, 3072, 7168, 16355, 32739, 65535, 131071] fmix (by kernel_rfl) (by kernel_rfl) rfl hC hB ?_; intro w hC hB
    refine D_ 0 rfl rfl (fun _ => opMove rfl) <| D_ 1 rfl rfl (fun _ => opMove rfl) <| D_ 2 rfl rfl (fun _ => opMove rfl) <| D_ 3 rfl rfl (fun _ => opMove rfl) <| D_ 4 rfl rfl (fun _ => (opDecr rfl rfl (Int.ofNat_lt.1 (of_decide_eq_true h7)) (is_sm hln hsm hj h6))) <| D_ 5 rfl rfl (fun _ => opMove rfl) <| D_ 6 rfl rfl (fun _ => opMove rfl) <| D_ 7 rfl rfl (fun _ => (opDecr rfl rfl (Int.ofNat_lt.1 (of_decide_eq_true h7)) (is_sm hln hsm hj h6))) <| D_ 8 rfl rfl (fun _ => (opIndexAddr rfl rfl slo38 (by have q := of_decide_eq_true h6; (try simp only [List.length_set]); omega))) ?_
    obtain ⟨row21, hr22, hi23, hl24⟩ := Ow.elemAt (bl := []) (r := []) hOwl hB hx15; obtain rfl := hi23
    refine E_ 9 rfl rfl (opLoadRow (cs := x14.cells) rfl hr22 row44 (by simp [cl_])) <| D_ 10 rfl rfl (fun _ => opMove rfl) <| D_ 11 rfl rfl (fun _ => opMove rfl) <| D_ 12 rfl rfl (fun _ => (opIndexAddr rfl rfl slo38 (by have q := of_decide_eq_true h6; (try simp only [List.length_set]); omega))) ?_
    obtain ⟨row25, hr26, hi27, hl28⟩ := Ow.elemAt (bl := []) (r := []) hOwl hB hx9; obtain rfl := hi27
    refine E_ 13 rfl rfl (opLoadRow (cs := x8.cells) rfl hr26 row44 (by simp [cl_])) <| D_ 14 rfl rfl (fun _ => (opIndexAddr rfl rfl slo38 (by have q := of_decide_eq_true h6; (try simp only [List.length_set]); omega))) ?_
    refine wdAll [15] (by kernel_rfl) rfl ⟨wd1 rfl ?_, trivial⟩
    intro hGd
    refine wlStoreOw (α := Stand) (bl := []) (r := []) (vs := x14.cells) (off := 0) (y := x14) hC hB hOwl hx9 rfl (by show _ = so4 + _ * 34 + 0; omega) rfl sz44 rfl (by simp [cl_]) (by simp [cl_, Value.oneCell']) (Nat.le_refl _) (fun row h => by obtain rfl := h; exact whole_row (by simp) (by simp)) rfl ?_; intro cs29 w hC hB hO30
    refine wdNext hGd rfl (kpDrop rfl (kpDrop rfl kpNil)) (Tk.nil _) ?_
    obtain ⟨x31, hx32⟩ : ∃ y_, ((List.set wl j x14))[(j - 1)]? = some y_ := ⟨_, List.getElem?_eq_getElem (by have q := of_decide_eq_true h6; (try simp only [List.length_set]); omega)⟩
    refine D_ 16 rfl rfl (fun _ => (opIndexAddr rfl rfl slo38 (by have q := of_decide_eq_true h6; (try simp only [List.length_set]); omega))) ?_
    refine wdAll [17] (by kernel_rfl) rfl ⟨wd1 rfl ?_, trivial⟩
    intro hGd
    refine wlStoreOw (α := Stand) (bl := []) (r := []) (vs := x8.cells) (off := 0) (y := x8) hC hB hO30 hx32 rfl (by show _ = so4 + _ * 34 + 0; omega) rfl sz44 rfl (by simp [cl_]) (by simp [cl_, Value.oneCell']) (Nat.le_refl _) (fun row h => by obtain rfl := h; exact whole_row (by simp) (by simp)) rfl ?_; intro cs33 w hC hB hO34
    refine wdNext hGd rfl kpNil (Tk.nil _) ?_
    refine wdDone (by kernel_rfl) <| wcOf <| wcRegion <| M_ rfl <| V_ (opDecr rfl rfl (Int.ofNat_lt.1 (of_decide_eq_true h7)) (is_sm hln hsm hj h6)) <| A_ rfl <| wlRound ?_
    exact (IH1 ((j - 1), cs33, (List.set ((List.set wl j x14)) ((j - 1)) x8)) _ _ ⟨hC, hB, hO34, (by simp [hwl]), (by omega), ((is_go h7 hx9 hx15 h20).symm.trans hJ)⟩ (by have := of_decide_eq_true h6; have := of_decide_eq_true h7; have := of_decide_eq_true h20; simp; omega)).sub (fun _ ha => ((((((ha.start.c ha 0 rfl).c ha 1 rfl).c ha 2 rfl).c ha 3 rfl).c ha 8 rfl).c ha 9 rfl))

theorem pdq_ret (G0 : Gh) (w0 : World) (hw : Holds G0 w0) (vs : Value) (s : List Stand) (os : Option Bx) (hs : Ow G0 os 44 vs s) (hBs : Bxs G0 w0 w0.heap.size (Option.toList os) ((Option.toList os).map (·.1))) (n : Nat) (lim : Int) (ff : FuncId) (cf : List Value) (pf : Stand → Stand → Int) (kf : callOk Tryz.prog ff = true) (hf : ∀ (G : Gh) (w : World) (f_x0 : Stand) (f_x1 : Stand), GLe G0 G → Holds G w → RetS Tryz.prog ff ([Value.agg f_x0.cells.toArray, Value.agg f_x1.cells.toArray] ++ cf).toArray G w (.int .i64 (pf f_x0 f_x1))) (hpos : 0 < s.length) (hln : n = s.length) (hsm : s.length ≤ 12) :
  RetP Tryz.prog 80 #[vs, .int .i64 0, .int .i64 ((n : Nat) : Int), .int .i64 lim, .func (.func ff) #[] cf.toArray] G0 w0 ((Option.toList os).map (·.1)) (fun G o v => v = .tuple #[] ∧ Ow G o 44 vs ((isortG pf s))) := by
 have hC := Cx.reflM ((Option.toList os).map (·.1)) hw
 have hB : Bxs G0 w0 w0.heap.size ([] ++ (Option.toList os ++ [])) ((Option.toList os).map (·.1)) := by simpa using hBs
 obtain ⟨A1, cap2, rfl⟩ := hs.form
 refine callsOfN Tryz.func80 rfl _ Tryz.ntmps80 rfl _ (argsCons (argsCons (argsCons (argsCons (argsCons argsNil (t := 0) rfl) (t := 1) rfl) (t := 2) rfl) (t := 3) rfl) (t := 4) rfl) ?_; intro Q0 hQ hN
 refine wcSeq <| wcRegion <| A_ rfl ?_
 refine wlThen (wcSeq (wcRegion ?_))
 refine A_ rfl <| wlThen <| wcBlock ?_
 refine wcLoop 64 ?_
 refine wrSucc ?_
 refine wcBlock (wcSeq (wcRegion ?_))
 refine M_ rfl <| M_ rfl <| V_ (opSub rfl rfl) <| A_ rfl ?_
 refine wlThen (wcSeq (wcSeq (wcRegion ?_)))
 refine M_ rfl <| V_ (opLeq rfl rfl) <| wlThen ?_
 cases h3 : decide (IntKind.wrap .i64 (((n : Nat) : Int) - 0) ≤ 12)
 ·
  exact (by have q := of_decide_eq_false h3; rw [Int.sub_zero, wrap_i64_nat (by omega)] at q; omega : False).elim
 ·
  refine wcCondT rfl <| wcSeq <| wcRegion <| M_ rfl <| M_ rfl <| M_ rfl <| M_ rfl ?_
  refine wlCallP (bl := []) (o := os) (r := []) hC hB rfl co89 rfl rfl (isort_ret _ _ hC.holds _ s _ hs (Bxs.mine (bl := []) (r := []) hB) n _ _ pf kf (fun G w f_x0 f_x1 hg hw  => hf G w f_x0 f_x1 (fun b o h => hg b o (hC.gle b o h)) hw ) hpos hln hsm) ?_; rintro v7 G o4 w hg6 hk hC hB ⟨rfl, hO5⟩
  refine wlThen <| wcRet ?_
  exact fun ac_ ha => hQ _ _ _ (results0 ha rfl ) ha.df (endP (bl := []) (o := o4) (r := []) hC hB ⟨rfl, hO5⟩)

theorem sort_ret (G0 : Gh) (w0 : World) (hw : Holds G0 w0) (vs : Value) (s : List Stand) (os : Option Bx) (hs : Ow G0 os 44 vs s) (hBs : Bxs G0 w0 w0.heap.size (Option.toList os) ((Option.toList os).map (·.1))) (ff : FuncId) (cf : List Value) (pf : Stand → Stand → Int) (kf : callOk Tryz.prog ff = true) (hf : ∀ (G : Gh) (w : World) (f_x0 : Stand) (f_x1 : Stand), GLe G0 G → Holds G w → RetS Tryz.prog ff ([Value.agg f_x0.cells.toArray, Value.agg f_x1.cells.toArray] ++ cf).toArray G w (.int .i64 (pf f_x0 f_x1))) (hpos : 0 < s.length) (hsm : s.length ≤ 12) :
  RetP Tryz.prog 53 #[vs, .func (.func ff) #[] cf.toArray] G0 w0 ((Option.toList os).map (·.1)) (fun G o v => v = .tuple #[] ∧ Ow G o 44 vs ((isortG pf s))) := by
 have hC := Cx.reflM ((Option.toList os).map (·.1)) hw
 have hB : Bxs G0 w0 w0.heap.size ([] ++ (Option.toList os ++ [])) ((Option.toList os).map (·.1)) := by simpa using hBs
 obtain ⟨A1, cap2, rfl⟩ := hs.form
 refine callsOfN Tryz.func53 rfl _ Tryz.ntmps53 rfl _ (argsCons (argsCons argsNil (t := 0) rfl) (t := 1) rfl) ?_; intro Q0 hQ hN
 refine wcSeq <| wcRegion <| M_ rfl <| V_ (opLen rfl isl38) <| A_ rfl <| wlThen <| wcRegion <| M_ rfl <| M_ rfl <| M_ rfl <| V_ (opConvN rfl un3 ui106 (wrap_u64_nat (by omega))) ?_
 refine wlCallS hC hB rfl co81 rfl rfl (len_ret _ _ hC.holds s.length hsm) ?_; intro w hk hC hB
 refine M_ rfl ?_
 refine wlCallP (bl := []) (o := os) (r := []) hC hB rfl co80 rfl rfl (pdq_ret _ _ hC.holds _ s _ hs (Bxs.mine (bl := []) (r := []) hB) s.length ((((len8 s.length : Nat) : Int))) _ _ pf kf (fun G w f_x0 f_x1 hg hw  => hf G w f_x0 f_x1 (fun b o h => hg b o (hC.gle b o h)) hw ) hpos rfl hsm) ?_; rintro v6 G o3 w hg5 hk hC hB ⟨rfl, hO4⟩
 refine wlNil ?_
 exact fun ac_ ha => hN _ _ _ (results0 ha rfl) ha.df (endP (bl := []) (o := o3) (r := []) hC hB ⟨rfl, hO4⟩)

end Go.Proofs.YtljcgggflgbenaaGreatDoor
