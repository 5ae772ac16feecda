/- The keys of a map of numbers, in order: slices.Sorted at the closure of maps.Keys. No condition. -/
import Derived.Shelf.SlIterI.Nil
import Derived.Shelf.SortM.Plain
import Derived.Shelf.SortM.SortNone
import Derived.Shelf.SlGeneric
import Derived.Test.YtpbcabanpppfoaaGreatVzKeys
import Derived.Test.YtpbcabanpppfoaaGreatCzD
set_option linter.all false
namespace Go.Proofs
open Go.RowKit Go.Maps Go.Sort Go.Shelf
def Tryz.sortedA_ren : Go.Shelf.Ren := ⟨fun | 6 => 53 | 8 => 93 | 9 => 45 | 11 => 143 | 13 => 87 | 12 => 86 | 23 => 130 | 24 => 131 | 14 => 122 | 15 => 123 | 16 => 124 | 17 => 125 | 18 => 126 | 19 => 127 | 20 => 118 | 21 => 128 | 22 => 129 | 25 => 171 | 26 => 172 | 27 => 173 | 28 => 174 | 29 => 175 | 30 => 164 | 31 => 207 | n => n, fun | 26 => 3 | 28 => 129 | 24 => 22 | 0 => 0 | 3 => 3 | 37 => 158 | 48 => 172 | 50 => 196 | 4 => 4 | 40 => 189 | 39 => 188 | 45 => 49 | 5 => 5 | 9 => 9 | 51 => 244 | 55 => 233 | 57 => 293 | 58 => 294 | 33 => 162 | n => n, fun | n => n⟩
theorem Tryz.sortedA : Go.Proofs.SlLaysZI.n6 Tryz.prog Tryz.sortedA_ren where
  mixed := by kernel_rfl
  f6 := ⟨"slices.Sorted[int]", by decide, Tryz.func53.trans (congrArg some (by kernel_rfl))⟩
  f8 := ⟨"slices.Collect[int]", by decide, Tryz.func93.trans (congrArg some (by kernel_rfl))⟩
  f11 := ⟨"slices.AppendSeq[[]int,int]", by decide, Tryz.func143.trans (congrArg some (by kernel_rfl))⟩
  t0 := Tryz.underlying0
  a0 := Tryz.isAgg0
  z0 := Tryz.sizeOf0
  v0 := Tryz.zeroValue0
  t24 := Tryz.underlying22
  a24 := Tryz.isAgg22
  z24 := Tryz.sizeOf22
  v24 := Tryz.zeroValue22
  t26 := Tryz.underlying3
  a26 := Tryz.isAgg3
  z26 := Tryz.sizeOf3
  v26 := Tryz.zeroValue3
  t28 := Tryz.underlying129
  a28 := Tryz.isAgg129
  z28 := Tryz.sizeOf129
  v28 := Tryz.zeroValue129
  i26 := by kernel_rfl
def Tryz.sortA_ren : Go.Shelf.Ren := ⟨fun | 5 => 45 | 8 => 87 | 7 => 86 | 19 => 130 | 20 => 131 | 10 => 122 | 11 => 123 | 12 => 124 | 13 => 125 | 14 => 126 | 15 => 127 | 16 => 118 | 17 => 128 | 18 => 129 | 30 => 171 | 31 => 172 | 32 => 173 | 33 => 174 | 34 => 175 | 35 => 164 | 40 => 207 | n => n, fun | 23 => 22 | 25 => 3 | 3 => 3 | 32 => 158 | 22 => 22 | 0 => 0 | 44 => 172 | 46 => 196 | 4 => 4 | 36 => 189 | 35 => 188 | 41 => 49 | 5 => 5 | 9 => 9 | 53 => 244 | 57 => 233 | 63 => 293 | 64 => 294 | n => n, fun | n => n⟩
theorem Tryz.sortA : Go.Proofs.SlLaysM.n5 Tryz.prog Tryz.sortA_ren where
  mixed := by kernel_rfl
  f5 := ⟨"slices.Sort[[]int,int]", by decide, Tryz.func45.trans (congrArg some (by kernel_rfl))⟩
  f7 := ⟨"slices.pdqsortOrdered[int]", by decide, Tryz.func86.trans (congrArg some (by kernel_rfl))⟩
  f8 := Tryz.func87.trans (congrArg some (by kernel_rfl))
  f10 := ⟨"slices.insertionSortOrdered[int]", by decide, Tryz.func122.trans (congrArg some (by kernel_rfl))⟩
  f11 := ⟨"slices.heapSortOrdered[int]", by decide, Tryz.func123.trans (congrArg some (by kernel_rfl))⟩
  f12 := ⟨"slices.breakPatternsOrdered[int]", by decide, Tryz.func124.trans (congrArg some (by kernel_rfl))⟩
  f13 := ⟨"slices.choosePivotOrdered[int]", by decide, Tryz.func125.trans (congrArg some (by kernel_rfl))⟩
  f14 := ⟨"slices.reverseRangeOrdered[int]", by decide, Tryz.func126.trans (congrArg some (by kernel_rfl))⟩
  f15 := ⟨"slices.partialInsertionSortOrdered[int]", by decide, Tryz.func127.trans (congrArg some (by kernel_rfl))⟩
  f16 := ⟨"cmp.Less[int]", by decide, Tryz.func118.trans (congrArg some (by kernel_rfl))⟩
  f17 := ⟨"slices.partitionEqualOrdered[int]", by decide, Tryz.func128.trans (congrArg some (by kernel_rfl))⟩
  f18 := ⟨"slices.partitionOrdered[int]", by decide, Tryz.func129.trans (congrArg some (by kernel_rfl))⟩
  f19 := Tryz.func130.trans (congrArg some (by kernel_rfl))
  f20 := Tryz.func131.trans (congrArg some (by kernel_rfl))
  f30 := ⟨"slices.siftDownOrdered[int]", by decide, Tryz.func171.trans (congrArg some (by kernel_rfl))⟩
  f31 := Tryz.func172.trans (congrArg some (by kernel_rfl))
  f32 := Tryz.func173.trans (congrArg some (by kernel_rfl))
  f33 := ⟨"slices.medianAdjacentOrdered[int]", by decide, Tryz.func174.trans (congrArg some (by kernel_rfl))⟩
  f34 := ⟨"slices.medianOrdered[int]", by decide, Tryz.func175.trans (congrArg some (by kernel_rfl))⟩
  f35 := ⟨"cmp.isNaN[int]", by decide, Tryz.func164.trans (congrArg some (by kernel_rfl))⟩
  f40 := ⟨"slices.order2Ordered[int]", by decide, Tryz.func207.trans (congrArg some (by kernel_rfl))⟩
  t0 := Tryz.underlying0
  a0 := Tryz.isAgg0
  z0 := Tryz.sizeOf0
  v0 := Tryz.zeroValue0
  t3 := Tryz.underlying3
  a3 := Tryz.isAgg3
  z3 := Tryz.sizeOf3
  v3 := Tryz.zeroValue3
  t4 := Tryz.underlying4
  a4 := Tryz.isAgg4
  z4 := Tryz.sizeOf4
  v4 := Tryz.zeroValue4
  t5 := Tryz.underlying5
  a5 := Tryz.isAgg5
  z5 := Tryz.sizeOf5
  v5 := Tryz.zeroValue5
  t9 := Tryz.underlying9
  a9 := Tryz.isAgg9
  z9 := Tryz.sizeOf9
  v9 := Tryz.zeroValue9
  t22 := Tryz.underlying22
  a22 := Tryz.isAgg22
  z22 := Tryz.sizeOf22
  v22 := Tryz.zeroValue22
  t23 := Tryz.underlying22
  a23 := Tryz.isAgg22
  z23 := Tryz.sizeOf22
  v23 := Tryz.zeroValue22
  t25 := Tryz.underlying3
  a25 := Tryz.isAgg3
  z25 := Tryz.sizeOf3
  v25 := Tryz.zeroValue3
  t32 := Tryz.underlying158
  a32 := Tryz.isAgg158
  z32 := Tryz.sizeOf158
  v32 := Tryz.zeroValue158
  t35 := Tryz.underlying188
  a35 := Tryz.isAgg188
  z35 := Tryz.sizeOf188
  v35 := Tryz.zeroValue188
  t36 := Tryz.underlying189
  a36 := Tryz.isAgg189
  z36 := Tryz.sizeOf189
  v36 := Tryz.zeroValue189
  t41 := Tryz.underlying49
  a41 := Tryz.isAgg49
  z41 := Tryz.sizeOf49
  v41 := Tryz.zeroValue49
  t44 := Tryz.underlying172
  a44 := Tryz.isAgg172
  z44 := Tryz.sizeOf172
  v44 := Tryz.zeroValue172
  t46 := Tryz.underlying196
  a46 := Tryz.isAgg196
  z46 := Tryz.sizeOf196
  v46 := Tryz.zeroValue196
  t53 := Tryz.underlying244
  a53 := Tryz.isAgg244
  z53 := Tryz.sizeOf244
  v53 := Tryz.zeroValue244
  t57 := Tryz.underlying233
  a57 := Tryz.isAgg233
  z57 := Tryz.sizeOf233
  v57 := Tryz.zeroValue233
  t63 := Tryz.underlying293
  a63 := Tryz.isAgg293
  z63 := Tryz.sizeOf293
  v63 := Tryz.zeroValue293
  t64 := Tryz.underlying294
  a64 := Tryz.isAgg294
  z64 := Tryz.sizeOf294
  v64 := Tryz.zeroValue294
def Tryz.keysA_ren : Go.Shelf.Ren := ⟨fun | 7 => 54 | 10 => 94 | n => n, fun | 23 => 90 | 26 => 3 | 3 => 111 | 28 => 129 | 0 => 0 | 27 => 128 | 33 => 162 | 4 => 4 | n => n, fun | n => n⟩
theorem Tryz.keysA : Go.Proofs.SlLaysZI.n7 Tryz.prog Tryz.keysA_ren where
  mixed := by kernel_rfl
  f7 := ⟨"maps.Keys[map[int]bastide/change.said,int,bastide/change.said]", by decide, Tryz.func54.trans (congrArg some (by kernel_rfl))⟩
  f10 := ⟨"maps.Keys[map[int]bastide/change.said,int,bastide/change.said]$1", by decide, Tryz.func94.trans (congrArg some (by kernel_rfl))⟩
  t0 := Tryz.underlying0
  a0 := Tryz.isAgg0
  z0 := Tryz.sizeOf0
  v0 := Tryz.zeroValue0
  t4 := Tryz.underlying4
  a4 := Tryz.isAgg4
  z4 := Tryz.sizeOf4
  v4 := Tryz.zeroValue4
  t23 := Tryz.underlying90
  a23 := Tryz.isAgg90
  z23 := Tryz.sizeOf90
  v23 := Tryz.zeroValue90
  t26 := Tryz.underlying3
  a26 := Tryz.isAgg3
  z26 := Tryz.sizeOf3
  v26 := Tryz.zeroValue3
  t27 := Tryz.underlying128
  a27 := Tryz.isAgg128
  z27 := Tryz.sizeOf128
  v27 := Tryz.zeroValue128
  t28 := Tryz.underlying129
  a28 := Tryz.isAgg129
  z28 := Tryz.sizeOf129
  v28 := Tryz.zeroValue129
  t33 := Tryz.underlying162
  a33 := Tryz.isAgg162
  z33 := Tryz.sizeOf162
  v33 := Tryz.zeroValue162
/-- slices.Sort's two contracts here, at the fence that asks nothing. -/
theorem Tryz.sortsA (m : Nat) : AnyZI.SortsIn Tryz.prog Tryz.sortedA_ren Fence.wide m :=
  ⟨fun blk off cap ss W hH hblk hsz => callsIn_wide.2 (AnyM.slices_Sort_int Tryz.sortA blk off cap ss W hH hblk hsz),
   fun p cap W => callsIn_wide.2 (AnyM.slices_Sort_int_none Tryz.sortA p cap W)⟩
end Go.Proofs
namespace Go.Proofs.YtpbcabanpppfoaaGreat
open Go Go.Gx Go.Vz Go.RowKit Go.Maps Go.Sort Go.Shelf
set_option maxRecDepth 20000 in
theorem sortK_ok : SortKOk Tryz.prog 53 94 3 where
  ty := Tryz.underlying3
  run := by
    intro bb b nn D0 R w hc hb hown hmax hbytes
    refine (callsIn_wide (n := 5)).1 ?_
    have hseq : SeqGives Fence.wide 2 Tryz.prog 94 #[.pointer (some ⟨bb, 0, none⟩)] encZ (fun ss => ss.Perm (intKeys D0)) (Maps.size D0) w :=
      AnyZI.keys_gives (ρ := Tryz.keysA_ren) { Tryz.keysA with } Fence.wide _ trivial rfl (by omega) bb b nn D0 _ hb hc hown
    have cS := AnyZI.sorted_in Tryz.sortedA Fence.wide 5 trivial trivial trivial trivial rfl (by omega) (Tryz.sortsA _) (enters_of Tryz.func45 (by kernel_rfl) rfl) 94 #[.pointer (some ⟨bb, 0, none⟩)] trivial (enters_of Tryz.func94 (by kernel_rfl) rfl) _ _ hmax hbytes w hseq
    change CallsIn _ _ Tryz.prog 53 _ _ _ at cS
    refine cS.mono ?_
    rintro e w' ⟨v, ss, rfl, hS, hrow, hnil, hbl⟩
    exact ⟨v, ss, rfl, hS, hrow, hbl⟩
end Go.Proofs.YtpbcabanpppfoaaGreat

namespace Go.Proofs.YtpbcabanpppfoaaGreat
open Go Go.Gx Go.Vz
set_option maxRecDepth 100000
def H0 {α : Type} : α → Nat → Nat → Option (Hint D) := fun _ _ _ => none
theorem K0 : Kept EF Tryz.prog noC noO := Kept.nil EF
abbrev iv (a : Int) : SV D := .i .i64 a
theorem drop_getD {α : Type} {d : α} {k : Nat} {l : List α} (h : k < l.length) : l.drop k = l.getD k d :: l.drop (k + 1) := by
  rw [List.drop_eq_getElem_cons h, List.getD_eq_getElem?_getD, List.getElem?_eq_getElem h]; rfl
/-! ### 97 crew.node -/
def nodeB (n : Int) : Bool := bif decide (1 ≤ n) then decide (n ≤ 28) else false
def node_c : Con D := { ts := [.int], rt := [.bool], ret := fun a => (nodeB a.1, ()) }
theorem node_ok : node_c.ok Tryz.prog 97 := Con.prove EF Z0 K0 (H := H0) (n := 0) fun (a : HL D node_c.ts) (_ : node_c.holds a) =>
  br_ (fun h1 : decide (1 ≤ a.1) = true => (by simp only [node_c, nodeB, h1, cond_true] : some (decide (a.1 ≤ 28), ()) = some (node_c.ret a)))
   (fun h1 : decide (1 ≤ a.1) = false => (by simp only [node_c, nodeB, h1, cond_false] : some (false, ()) = some (node_c.ret a)))
/-! ### 59 crew.Check -/
def risesB : Int → List Int → Bool
  | _, [] => true
  | l, x :: r => bif decide (x ≤ l) || !nodeB x then false else risesB x r
def check (c : Crew) : Int := bif decide (c.faults < 0) then 110 else bif decide (2 < c.faults) then 110 else bif ((c.nodes.length : Int) != IntKind.wrap .i64 (IntKind.wrap .i64 (3 * c.faults) + 1)) then 110 else bif risesB 0 c.nodes then 0 else 110
abbrev Γ1 := addC noC 97 node_c
theorem K1 : Kept EF Tryz.prog Γ1 noO := K0.c node_ok
def check_c : Con D := { ts := [.st 0], rt := [.int], ret := fun a => (check a.1, ()) }
def check_h (c : Crew) : LH D := ⟨Nat × Int, [27, 3], fun i => [.i .i64 (i.1 : Nat), .i .i64 i.2], fun i => risesB i.2 (c.nodes.drop i.1) = risesB 0 c.nodes, fun i => c.nodes.length - i.1, [], fun _ => [], [], fun _ => []⟩
theorem check_ok : check_c.ok Tryz.prog 59 := Con.prove (c := check_c) EF Z0 K1 (H := fun a _ i => match i with | 5 => some (.inv (check_h a.1)) | _ => none) (n := 0) fun (a : HL D check_c.ts) (_ : check_c.holds a) =>
  br_ (fun h1 : decide (a.1.faults < 0) = true => (by simp only [check_c, check, h1, cond_true] : some (110, ()) = some (check_c.ret a)))
  (fun h1 : decide (a.1.faults < 0) = false => br_ (fun h2 : decide (2 < a.1.faults) = true => (by simp only [check_c, check, h1, h2, cond_true, cond_false] : some (110, ()) = some (check_c.ret a)))
  (fun h2 : decide (2 < a.1.faults) = false => brL fun hl : a.1.nodes.length ≤ maxL =>
  br_ (fun h3 : (((a.1.nodes.length : Nat) : Int) != IntKind.wrap .i64 (IntKind.wrap .i64 (3 * a.1.faults) + 1)) = true => (by simp only [check_c, check, h1, h2, h3, cond_true, cond_false] : some (110, ()) = some (check_c.ret a)))
  (fun h3 : (((a.1.nodes.length : Nat) : Int) != IntKind.wrap .i64 (IntKind.wrap .i64 (3 * a.1.faults) + 1)) = false => brL fun _ : a.1.nodes.length ≤ maxL =>
  And.intro (⟨(0, 0), rfl, rfl, rfl, rfl⟩ : Ent (check_h a.1) [iv 0, iv 0] [] [])
  fun (i : Nat × Int) (hI : (check_h a.1).inv i) =>
  br_ (fun h4 : decide ((i.1 : Int) < (a.1.nodes.length : Int)) = true =>
    have h4' : i.1 < a.1.nodes.length := by simpa using h4
    have hI : (bif decide (a.1.nodes.getD i.1 0 ≤ i.2) || !nodeB (a.1.nodes.getD i.1 0) then false else risesB (a.1.nodes.getD i.1 0) (a.1.nodes.drop (i.1 + 1))) = risesB 0 a.1.nodes := by
      have hI : risesB i.2 (a.1.nodes.drop i.1) = risesB 0 a.1.nodes := hI
      rwa [drop_getD (d := 0) h4'] at hI
    brN (c := decide (0 ≤ (i.1 : Int)) && decide ((i.1 : Int) < (a.1.nodes.length : Int))) (by simpa using h4')
    (br_ (fun h5 : decide (a.1.nodes.getD i.1 0 ≤ i.2) = true => (by rw [h5] at hI; simp only [Bool.true_or, cond_true] at hI; simp only [check_c, check, h1, h2, h3, ← hI, cond_false] : some (110, ()) = some (check_c.ret a)))
    (fun h5 : decide (a.1.nodes.getD i.1 0 ≤ i.2) = false =>
    br_ (fun h6 : (!nodeB (a.1.nodes.getD i.1 0)) = true => (by rw [h5, h6] at hI; simp only [Bool.false_or, cond_true] at hI; simp only [check_c, check, h1, h2, h3, ← hI, cond_false] : some (110, ()) = some (check_c.ret a)))
    (fun h6 : (!nodeB (a.1.nodes.getD i.1 0)) = false =>
      (⟨(i.1 + 1, a.1.nodes.getD i.1 0), by rw [wrap1 h4' hl]; rfl, rfl, rfl, by rw [h5, h6] at hI; exact hI, by show _ - (i.1 + 1) < _ - i.1; omega⟩ : Rnd (check_h a.1) i [iv (IntKind.wrap .i64 ((i.1 : Nat) + 1)), iv (a.1.nodes.getD i.1 0)] [] [])))))
  (fun h4 : decide ((i.1 : Int) < (a.1.nodes.length : Int)) = false => (by
      have hI : risesB i.2 (a.1.nodes.drop i.1) = risesB 0 a.1.nodes := hI
      rw [List.drop_eq_nil_of_le (by simpa using h4)] at hI
      simp only [check_c, check, h1, h2, h3, ← hI, risesB, cond_true, cond_false] : some (0, ()) = some (check_c.ret a))))))
/-! ### 118 cmp.Less, 82 slices.BinarySearch -/
theorem mid_eq {i j : Nat} (h : i + j ≤ 2 * maxL) : IntKind.wrap .i64 (shrK .u64 (IntKind.wrap .u64 (IntKind.wrap .i64 ((i : Int) + (j : Int)))) 1) = (((i + j) / 2 : Nat) : Int) := by
  unfold maxL at h
  have e1 : IntKind.wrap .i64 ((i : Int) + (j : Int)) = ((i + j : Nat) : Int) := by rw [← Int.natCast_add]; exact wrap_i64_nat (by omega)
  rw [e1, wrap_u64_nat (by omega)]
  have e2 : shrK .u64 ((i + j : Nat) : Int) 1 = (((i + j) / 2 : Nat) : Int) := by
    show ((i + j : Nat) : Int).fdiv (2 ^ 1) = _
    rw [Int.fdiv_eq_ediv_of_nonneg _ (by omega)]; omega
  rw [e2]; exact wrap_i64_nat (by omega)
def less_c : Con D := { ts := [.int, .int], rt := [.bool], ret := fun a => (decide (a.1 < a.2.1), ()) }
theorem less_ok : less_c.ok Tryz.prog 118 := Con.prove (c := less_c) EF Z0 K0 (H := H0) (n := 2) fun (a : HL D less_c.ts) (_ : less_c.holds a) =>
  bq (a.1 != a.1) (fun h1 => bq (!a.2.1 != a.2.1) (fun _ => (by simp at h1 : some (true, ()) = some (less_c.ret a))) (fun _ => (rfl : some (decide (a.1 < a.2.1), ()) = some (less_c.ret a)))) (fun _ => (rfl : some (decide (a.1 < a.2.1), ()) = some (less_c.ret a)))
def bsGo (xs : List Int) (t : Int) : Nat → Nat → Nat → Nat
  | 0, i, _ => i
  | f + 1, i, j => bif decide (i < j) then (bif decide (xs.getD ((i + j) / 2) 0 < t) then bsGo xs t f ((i + j) / 2 + 1) j else bsGo xs t f i ((i + j) / 2)) else i
def bsI (xs : List Int) (t : Int) : Nat := bsGo xs t xs.length 0 xs.length
def bsF (xs : List Int) (t : Int) : Bool := decide (bsI xs t < xs.length) && (xs.getD (bsI xs t) 0 == t)
theorem bsGo_done (xs : List Int) (t : Int) (f i j : Nat) (h : ¬ i < j) : bsGo xs t f i j = i := by
  cases f with
  | zero => rfl
  | succ f => simp [bsGo, h]
abbrev Γl := addC Γ1 118 less_c
theorem Kl : Kept EF Tryz.prog Γl noO := K1.c less_ok
def bs_c : Con D := { ts := [.sl .int, .int], rt := [.int, .bool], ret := fun a => ((bsI a.1 a.2.1 : Nat), bsF a.1 a.2.1, ()) }
def bs_h (xs : List Int) (t : Int) : LH D := ⟨Nat × Nat × Nat, [7, 8], fun i => [.i .i64 (i.2.1 : Nat), .i .i64 (i.2.2 : Nat)], fun i => i.2.1 ≤ i.2.2 ∧ i.2.2 ≤ xs.length ∧ i.2.2 ≤ i.2.1 + i.1 ∧ bsGo xs t i.1 i.2.1 i.2.2 = bsI xs t, fun i => i.1, [], fun _ => [], [], fun _ => []⟩
theorem bs_ok : bs_c.ok Tryz.prog 82 := Con.prove (c := bs_c) EF Z0 Kl (H := fun a _ i => match i with | 3 => some (.inv (bs_h a.1 a.2.1)) | _ => none) (n := 4) fun (a : HL D bs_c.ts) (_ : bs_c.holds a) =>
  brL fun hl : List.length a.1 ≤ maxL =>
  And.intro (⟨(a.1.length, 0, a.1.length), rfl, rfl, rfl, ⟨Nat.zero_le _, Nat.le_refl _, by simp, rfl⟩⟩ : Ent (bs_h a.1 a.2.1) [iv 0, iv (a.1.length : Nat)] [] [])
  fun (i : Nat × Nat × Nat) (hI : (bs_h a.1 a.2.1).inv i) =>
  br_ (fun h3 : decide ((i.2.1 : Int) < (i.2.2 : Int)) = true =>
    have h3' : i.2.1 < i.2.2 := by simpa using h3
    have hm := mid_eq (i := i.2.1) (j := i.2.2) (by have := hI.1; have := hI.2.1; omega)
    have hlt : (i.2.1 + i.2.2) / 2 < a.1.length := by have := hI.2.1; omega
    have hst : ∃ f, i.1 = f + 1 ∧ (bif decide (a.1.getD ((i.2.1 + i.2.2) / 2) 0 < a.2.1) then bsGo a.1 a.2.1 f ((i.2.1 + i.2.2) / 2 + 1) i.2.2 else bsGo a.1 a.2.1 f i.2.1 ((i.2.1 + i.2.2) / 2)) = bsI a.1 a.2.1 := by
      obtain ⟨k1, k2, k3, k4⟩ := hI
      cases hf : i.1 with
      | zero => omega
      | succ f => rw [hf] at k4; exact ⟨f, rfl, by simpa [bsGo, h3'] using k4⟩
    (brN (c := decide ((0 : Int) ≤ IntKind.wrap .i64 (shrK .u64 (IntKind.wrap .u64 (IntKind.wrap .i64 ((i.2.1 : Int) + (i.2.2 : Int)))) 1)) && decide (IntKind.wrap .i64 (shrK .u64 (IntKind.wrap .u64 (IntKind.wrap .i64 ((i.2.1 : Int) + (i.2.2 : Int)))) 1) < (a.1.length : Int))) (by rw [hm]; simp; omega) (
    br_ (fun h4 : decide (a.1.getD (Int.toNat (IntKind.wrap .i64 (shrK .u64 (IntKind.wrap .u64 (IntKind.wrap .i64 ((i.2.1 : Int) + (i.2.2 : Int)))) 1))) 0 < a.2.1) = true =>
      (by
        obtain ⟨f, hf, hb⟩ := hst
        rw [hm] at h4
        rw [show a.1.getD ((i.2.1 + i.2.2) / 2) 0 = a.1.getD (Int.toNat (((i.2.1 + i.2.2) / 2 : Nat) : Int)) 0 from rfl, h4] at hb
        exact ⟨(f, (i.2.1 + i.2.2) / 2 + 1, i.2.2), by rw [hm, wrap1 hlt hl]; rfl, rfl, rfl, ⟨by show (i.2.1 + i.2.2) / 2 + 1 ≤ i.2.2; omega, hI.2.1, by show i.2.2 ≤ (i.2.1 + i.2.2) / 2 + 1 + f; have : i.2.2 ≤ i.2.1 + i.1 := hI.2.2.1; omega, hb⟩, by show f < i.1; omega⟩ : Rnd (bs_h a.1 a.2.1) i [iv (IntKind.wrap .i64 (IntKind.wrap .i64 (shrK .u64 (IntKind.wrap .u64 (IntKind.wrap .i64 ((i.2.1 : Int) + (i.2.2 : Int)))) 1) + 1)), iv (i.2.2 : Nat)] [] []))
    (fun h4 : decide (a.1.getD (Int.toNat (IntKind.wrap .i64 (shrK .u64 (IntKind.wrap .u64 (IntKind.wrap .i64 ((i.2.1 : Int) + (i.2.2 : Int)))) 1))) 0 < a.2.1) = false =>
      (by
        obtain ⟨f, hf, hb⟩ := hst
        rw [hm] at h4
        rw [show a.1.getD ((i.2.1 + i.2.2) / 2) 0 = a.1.getD (Int.toNat (((i.2.1 + i.2.2) / 2 : Nat) : Int)) 0 from rfl, h4] at hb
        exact ⟨(f, i.2.1, (i.2.1 + i.2.2) / 2), by rw [hm]; rfl, rfl, rfl, ⟨by show i.2.1 ≤ (i.2.1 + i.2.2) / 2; omega, by show (i.2.1 + i.2.2) / 2 ≤ a.1.length; omega, by show (i.2.1 + i.2.2) / 2 ≤ i.2.1 + f; have : i.2.2 ≤ i.2.1 + i.1 := hI.2.2.1; omega, hb⟩, by show f < i.1; omega⟩ : Rnd (bs_h a.1 a.2.1) i [iv (i.2.1 : Nat), iv (IntKind.wrap .i64 (shrK .u64 (IntKind.wrap .u64 (IntKind.wrap .i64 ((i.2.1 : Int) + (i.2.2 : Int)))) 1))] [] [])))))
  (fun h3 : decide ((i.2.1 : Int) < (i.2.2 : Int)) = false =>
    have hb : i.2.1 = bsI a.1 a.2.1 := by rw [← hI.2.2.2]; exact (bsGo_done _ _ _ _ _ (by simpa using h3)).symm
    br_ (fun h4 : decide ((i.2.1 : Int) < (a.1.length : Int)) = true =>
      have h4' : i.2.1 < a.1.length := by simpa using h4
      brN (c := decide ((0 : Int) ≤ (i.2.1 : Int)) && decide ((i.2.1 : Int) < (a.1.length : Int))) (by simp; omega) (
      br_ (fun h5 : (a.1.getD (Int.toNat (i.2.1 : Int)) 0 == a.2.1) = true =>
        (by
          have h5 : (a.1.getD i.2.1 0 == a.2.1) = true := h5
          rw [hb] at h5 h4'
          simp only [bs_c, bsF, hb, h5, h4', decide_true, Bool.true_and] : some ((i.2.1 : Int), true, ()) = some (bs_c.ret a)))
      (fun h5 : (a.1.getD (Int.toNat (i.2.1 : Int)) 0 == a.2.1) = false =>
        brN (c := decide ((0 : Int) ≤ (i.2.1 : Int)) && decide ((i.2.1 : Int) < (a.1.length : Int))) (by simp; omega) (
        bq (a.1.getD (Int.toNat (i.2.1 : Int)) 0 != a.1.getD (Int.toNat (i.2.1 : Int)) 0) (fun h6 => (by simp at h6 : some ((i.2.1 : Int), a.2.1 != a.2.1, ()) = some (bs_c.ret a))) fun _ =>
        (by
          have h5 : (a.1.getD i.2.1 0 == a.2.1) = false := h5
          rw [hb] at h5
          simp only [bs_c, bsF, hb, h5, Bool.and_false] : some ((i.2.1 : Int), false, ()) = some (bs_c.ret a))))))
    (fun h4 : decide ((i.2.1 : Int) < (a.1.length : Int)) = false =>
      (by
        have h4' : ¬ i.2.1 < a.1.length := by simpa using h4
        rw [hb] at h4'
        simp only [bs_c, bsF, hb, h4', decide_false, Bool.false_and] : some ((i.2.1 : Int), false, ()) = some (bs_c.ret a))))
/-! ### 46 crew.Some, 40 crew.Has -/
abbrev Γ2 := addC (addC Γl 59 check_c) 82 bs_c
theorem K2 : Kept EF Tryz.prog Γ2 noO := (Kl.c check_ok).c bs_ok
end Go.Proofs.YtpbcabanpppfoaaGreat
