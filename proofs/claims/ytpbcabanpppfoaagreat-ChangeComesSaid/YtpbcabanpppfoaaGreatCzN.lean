/- Change: the book of what was reckoned, walked by reckoning. No condition. -/
import Derived.Test.YtpbcabanpppfoaaGreatCzP
import Derived.Test.YtpbcabanpppfoaaGreatCzA
set_option linter.all false
namespace Go.Proofs.YtpbcabanpppfoaaGreat
open Go Go.Gx Go.Vz
set_option maxRecDepth 100000
abbrev BS : List ES := [.box 107 [.nm 1, .nm 2, .dat .int], .map .dig .str, .map .str .bool]
theorem Kbo : Kept EF Tryz.prog (addC noC 91 of_c) noO := K0.c of_ok
def bkS (b : List UInt8) (m : List (Dig × List UInt8)) : List (Dig × List UInt8) := bif !(mgetT (E := D) .dig .str m (shaD b)).isSome then mputT (E := D) .dig .str m (shaD b) b else m
def bkM (b : List UInt8) (m : List (Dig × List UInt8)) (r : List (List UInt8 × Bool)) : List (List UInt8 × Bool) := bif !(mgetT (E := D) .dig .str m (shaD b)).isSome then r else bif !decide ((mgetT (E := D) .dig .str m (shaD b)).getD [] = b) then mputT (E := D) .str .bool r b true else r
/-! ### 50 (*ink.Book).Of -/
def bo_c : OCon D := { ash := [.nm 0, .dat (.sl .u8)], es := BS, rsh := [.dat .dig, .dat .int], pes := BS, pre := some (fun a _ => a.1.length ≤ 65536), post := fun a e => ((shaD a.1, (0 : Int), ()), (IntKind.wrap .i64 (e.1.1 + 1), ()), bkS a.1 e.2.1, bkM a.1 e.2.1 e.2.2.1, ()) }
theorem bo_ok : bo_c.ok EF Tryz.prog 50 := OCon.prove (c := bo_c) EF (Z0.side Kbo) Kbo (H := fun _ _ _ _ => none) (n := 2) fun (a : CL D bo_c.ash) (e : EL D bo_c.es) (hp : bo_c.holds a e) =>
  have hl : a.1.length ≤ 65536 := hp
  brL fun _ : a.1.length ≤ maxL =>
  bq (decide ((65536 : Int) < ((a.1.length : Nat) : Int))) (fun h => (by have := of_decide_eq_true h; omega : some ((Dig.zero, (5 : Int), ()), (e.1.1, ()), e.2.1, e.2.2.1, ()) = some (bo_c.post a e)))
  (fun _ => bq (!(mgetT (E := D) .dig .str e.2.1 (shaD a.1)).isSome) (fun h => (by simp only [bo_c, bkS, bkM, h, cond_true] : some ((shaD a.1, (0 : Int), ()), (IntKind.wrap .i64 (e.1.1 + 1), ()), mputT (E := D) .dig .str e.2.1 (shaD a.1) a.1, e.2.2.1, ()) = some (bo_c.post a e)))
  (fun h => bq (!decide ((mgetT (E := D) .dig .str e.2.1 (shaD a.1)).getD [] = a.1)) (fun h2 => (by simp only [bo_c, bkS, bkM, h, h2, cond_true, cond_false] : some ((shaD a.1, (0 : Int), ()), (IntKind.wrap .i64 (e.1.1 + 1), ()), e.2.1, mputT (E := D) .str .bool e.2.2.1 a.1 true, ()) = some (bo_c.post a e)))
  (fun h2 => (by simp only [bo_c, bkS, bkM, h, h2, cond_false] : some ((shaD a.1, (0 : Int), ()), (IntKind.wrap .i64 (e.1.1 + 1), ()), e.2.1, e.2.2.1, ()) = some (bo_c.post a e)))))
/-! ### 21 (*ink.Book).Clash -/
def bc_c : OCon D := { ash := [.nm 0], es := BS, rsh := [.dat .bool], pes := BS, post := fun _ e => ((bif (mgetT (E := D) .dig .str e.2.1 Dig.zero).isSome then true else decide ((0 : Int) < ((e.2.2.1.length : Nat) : Int)), ()), e) }
theorem bc_ok : bc_c.ok EF Tryz.prog 21 := OCon.prove (c := bc_c) EF Z0 K0 (H := fun _ _ _ _ => none) (n := 2) fun (a : CL D bc_c.ash) (e : EL D bc_c.es) (_ : bc_c.holds a e) =>
  bq ((mgetT (E := D) .dig .str e.2.1 Dig.zero).isSome) (fun h => (by simp only [bc_c, h, cond_true]; rfl : some ((true, ()), (e.1.1, ()), e.2.1, e.2.2.1, ()) = some (bc_c.post a e)))
  (fun h => (by simp only [bc_c, h, cond_false]; rfl : some ((decide ((0 : Int) < ((e.2.2.1.length : Nat) : Int)), ()), (e.1.1, ()), e.2.1, e.2.2.1, ()) = some (bc_c.post a e)))
/-! ### 11 ink.New -/
def bn_c : OCon D := { ash := [], es := [], rsh := [.nm 0], pes := BS, post := fun _ _ => ((), ((0 : Int), ()), [], [], ()) }
theorem bn_ok : bn_c.ok EF Tryz.prog 11 := OCon.prove (c := bn_c) EF Z0 K0 (H := fun _ _ _ _ => none) (n := 1) fun (a : CL D bn_c.ash) (e : EL D bn_c.es) (_ : bn_c.holds a e) =>
  (rfl : some ((), ((0 : Int), ()), [], [], ()) = some (bn_c.post a e))
end Go.Proofs.YtpbcabanpppfoaaGreat

namespace Go.Proofs.YtpbcabanpppfoaaGreat
open Go Go.Gx Go.Vz
set_option maxRecDepth 100000
theorem mb3 : mulB Tryz.prog 3 = 8 := by kernel_rfl
theorem mb116 : mulB Tryz.prog 116 = 40 := by kernel_rfl
theorem mb118 : mulB Tryz.prog 118 = 48 := by kernel_rfl
theorem mb5 : mulB Tryz.prog 5 = 1 := by kernel_rfl
/-! ### 46 bastide/crew.Some -/
def some_p (a : HL D [.st 0]) : HL D [.int] :=
 bif check a.1 != 0 then (0, ()) else (IntKind.wrap .i64 (a.1.faults + 1), ())
def some_c : Con D := { ts := [.st 0], rt := [.int], ret := some_p }
theorem some_ok : some_c.ok Tryz.prog 46 := Con.prove (c := some_c) EF Z0 K2 (H := H0) (n := 4) fun (a : HL D some_c.ts) (hp : some_c.holds a) =>
 br_ (fun h1 => some_c.lf a (ct h1 (rfl))) (fun h1 => some_c.lf a (cf h1 (rfl)))
/-! ### 40 bastide/crew.Has -/
def has_p (a : HL D [.st 0, .int]) : HL D [.bool] :=
 bif check a.1 == 0 then (bsF a.1.nodes a.2.1, ()) else (false, ())
def has_c : Con D := { ts := [.st 0, .int], rt := [.bool], ret := has_p }
theorem has_ok : has_c.ok Tryz.prog 40 := Con.prove (c := has_c) EF Z0 K2 (H := H0) (n := 4) fun (a : HL D has_c.ts) (hp : has_c.holds a) =>
 br_ (fun h1 => has_c.lf a (ct h1 (rfl))) (fun h1 => has_c.lf a (cf h1 (rfl)))
/-! ### 60 slices.Clone[[]int,int] -/
def clI_p (a : HL D [.sl .int]) : HL D [.sl .int] :=
 (a.1, ())
def clI_c : Con D := { ts := [.sl .int], rt := [.sl .int], pre := some (fun a => a.1.length ≤ 1000000), ret := clI_p }
theorem clI_ok : clI_c.ok Tryz.prog 60 := Con.prove (c := clI_c) EF Z0 K0 (H := H0) (n := 4) fun (a : HL D clI_c.ts) (hp : clI_c.holds a) =>
 Nl.mk (xs := a.1) (fun h1 => (by simp [clI_c, clI_p, *] : some ([], ()) = some (clI_c.ret a))) (
 brN (c := Nat.ble ((0 + List.length a.1) * mulB Tryz.prog 3) maxL) (by rw [mb3]; exact Nat.ble_eq_true_of_le (by have h : a.1.length ≤ 1000000 := hp; unfold maxL; omega)) (
 clI_c.lf a (rfl)))
/-! ### 95 slices.Clone[[]bastide/api.Mark,bastide/api.Mark] -/
def clM_p (a : HL D [.sl (.st 1)]) : HL D [.sl (.st 1)] :=
 (a.1, ())
def clM_c : Con D := { ts := [.sl (.st 1)], rt := [.sl (.st 1)], pre := some (fun a => a.1.length ≤ 1000000), ret := clM_p }
theorem clM_ok : clM_c.ok Tryz.prog 95 := Con.prove (c := clM_c) EF Z0 K0 (H := H0) (n := 4) fun (a : HL D clM_c.ts) (hp : clM_c.holds a) =>
 Nl.mk (xs := a.1) (fun h1 => (by simp [clM_c, clM_p, *] : some ([], ()) = some (clM_c.ret a))) (
 brN (c := Nat.ble ((0 + List.length a.1) * mulB Tryz.prog 116) maxL) (by rw [mb116]; exact Nat.ble_eq_true_of_le (by have h : a.1.length ≤ 1000000 := hp; unfold maxL; omega)) (
 clM_c.lf a (rfl)))
/-! ### 96 slices.Clone[[]bastide/api.Stand,bastide/api.Stand] -/
def clS_p (a : HL D [.sl (.st 2)]) : HL D [.sl (.st 2)] :=
 (a.1, ())
def clS_c : Con D := { ts := [.sl (.st 2)], rt := [.sl (.st 2)], pre := some (fun a => a.1.length ≤ 1000000), ret := clS_p }
theorem clS_ok : clS_c.ok Tryz.prog 96 := Con.prove (c := clS_c) EF Z0 K0 (H := H0) (n := 4) fun (a : HL D clS_c.ts) (hp : clS_c.holds a) =>
 Nl.mk (xs := a.1) (fun h1 => (by simp [clS_c, clS_p, *] : some ([], ()) = some (clS_c.ret a))) (
 brN (c := Nat.ble ((0 + List.length a.1) * mulB Tryz.prog 118) maxL) (by rw [mb118]; exact Nat.ble_eq_true_of_le (by have h : a.1.length ≤ 1000000 := hp; unfold maxL; omega)) (
 clS_c.lf a (rfl)))
/-! ### 306 slices.Clone[[]byte,byte] -/
def clB_p (a : HL D [.sl .u8]) : HL D [.sl .u8] :=
 (a.1, ())
def clB_c : Con D := { ts := [.sl .u8], rt := [.sl .u8], pre := some (fun a => a.1.length ≤ 1000000), ret := clB_p }
theorem clB_ok : clB_c.ok Tryz.prog 306 := Con.prove (c := clB_c) EF Z0 K0 (H := H0) (n := 4) fun (a : HL D clB_c.ts) (hp : clB_c.holds a) =>
 Nl.mk (xs := a.1) (fun h1 => (by simp [clB_c, clB_p, *] : some ([], ()) = some (clB_c.ret a))) (
 brN (c := Nat.ble ((0 + List.length a.1) * mulB Tryz.prog 5) maxL) (by rw [mb5]; exact Nat.ble_eq_true_of_le (by have h : a.1.length ≤ 1000000 := hp; unfold maxL; omega)) (
 clB_c.lf a (rfl)))
/-! ### 9 bastide/bastideref00.Bring -/
def bring_p (a : HL D [.int, .int]) : HL D [.int] :=
 bif decide (a.2.1 ≤ (0 : Int)) then
 ((0 : Int), ())
 else bif decide (Int.tmod a.1 a.2.1 < (0 : Int)) then
 (IntKind.wrap IntKind.i64 (Int.tmod a.1 a.2.1 + a.2.1), ())
 else (Int.tmod a.1 a.2.1, ())
def bring_c : Con D := { ts := [.int, .int], rt := [.int], ret := bring_p }
theorem bring_ok : bring_c.ok Tryz.prog 9 := Con.prove (c := bring_c) EF Z0 K0 (H := H0) (n := 4) fun (a : HL D bring_c.ts) (hp : bring_c.holds a) =>
 br_ (fun h1 => bring_c.lf a (ct h1 (rfl))) (fun h1 => brN (c := a.2.1 != (0 : Int)) (by have h := of_decide_eq_false h1; simp; intro e; exact h (Int.le_of_eq e)) (
 br_ (fun h2 => bring_c.lf a (cf h1 (ct h2 (rfl)))) (fun h2 => bring_c.lf a (cf h1 (cf h2 (rfl))))))
/-! ### 13 bastide/bastidelaw19.tells -/
def tells (c : Change) : Note := ⟨7, c.node, 1, 1, 0, 0, Dig.zero, [], ⟨0, [], 0, []⟩, 0, 0, c, [], [], 0, 0, [], [], []⟩
def tells_p (a : HL D [.st 3]) : HL D [.st 7] :=
 (tells a.1, ())
def tells_c : Con D := { ts := [.st 3], rt := [.st 7], ret := tells_p }
theorem tells_ok : tells_c.ok Tryz.prog 13 := Con.prove (c := tells_c) EF Z0 K0 (H := H0) (n := 4) fun (a : HL D tells_c.ts) (hp : tells_c.holds a) =>
 tells_c.lf a (rfl)
/-! ### 14 bastide/bastidelaw19.says -/
def dig1 (b : UInt8) : Dig := digPut Dig.zero 0 b
def dig2 (b c : UInt8) : Dig := digPut (digPut Dig.zero 0 b) 1 c
def says (n v : Int) (b : UInt8) : Change := ⟨n, v, 0, [⟨0, dig1 9⟩], [], [⟨1, dig2 b 1, 0⟩]⟩
def says_p (a : HL D [.int, .int, .u8]) : HL D [.st 3] :=
 (says a.1 a.2.1 a.2.2.1, ())
def says_c : Con D := { ts := [.int, .int, .u8], rt := [.st 3], ret := says_p }
theorem says_ok : says_c.ok Tryz.prog 14 := Con.prove (c := says_c) EF Z0 K0 (H := H0) (n := 4) fun (a : HL D says_c.ts) (hp : says_c.holds a) =>
 says_c.lf a (rfl)
/-! ### 152 bastide/note.within -/
def within_p (a : HL D [.int, .int, .int]) : HL D [.bool] :=
 bif decide (a.2.1 ≤ a.1) then
 (decide (a.1 ≤ a.2.2.1), ())
 else (false, ())
def within_c : Con D := { ts := [.int, .int, .int], rt := [.bool], ret := within_p }
theorem within_ok : within_c.ok Tryz.prog 152 := Con.prove (c := within_c) EF Z0 K0 (H := H0) (n := 4) fun (a : HL D within_c.ts) (hp : within_c.holds a) =>
 br_ (fun h1 => within_c.lf a (ct h1 (rfl))) (fun h1 => within_c.lf a (cf h1 (rfl)))
/-! ### 156 bytes.Equal -/
def bEq_p (a : HL D [.sl .u8, .sl .u8]) : HL D [.bool] :=
 (decide (a.1 = a.2.1), ())
def bEq_c : Con D := { ts := [.sl .u8, .sl .u8], rt := [.bool], ret := bEq_p }
theorem bEq_ok : bEq_c.ok Tryz.prog 156 := Con.prove (c := bEq_c) EF Z0 K0 (H := H0) (n := 4) fun (a : HL D bEq_c.ts) (hp : bEq_c.holds a) =>
 bEq_c.lf a (rfl)
end Go.Proofs.YtpbcabanpppfoaaGreat

namespace Go.Proofs.YtpbcabanpppfoaaGreat
open Go Go.Gx Go.Vz
set_option maxRecDepth 100000
def digsF : Nat → Nat → List UInt8
  | 0, _ => []
  | f + 1, n => bif Nat.beq n 0 then [] else digsF f (n / 256) ++ [UInt8.ofNat (n % 256)]
def digs (n : Nat) : List UInt8 := digsF 8 n
theorem digsF_zero (f : Nat) : digsF f 0 = [] := by cases f <;> rfl
theorem digsF_pos {f n : Nat} (h : 0 < n) (hf : n < 256 ^ f) : ∃ g, f = g + 1 ∧ digsF f n = digsF g (n / 256) ++ [UInt8.ofNat (n % 256)] ∧ n / 256 < 256 ^ g := by
  cases f with
  | zero => simp at hf; omega
  | succ g =>
    refine ⟨g, rfl, ?_, ?_⟩
    · have : Nat.beq n 0 = false := by cases n with | zero => omega | succ n => rfl
      simp [digsF, this]
    · rw [Nat.pow_succ] at hf; omega
/-! ### 208 bastideref01.digits -/
def dg_c : Con D := { ts := [.int], rt := [.sl .u8], pre := some (fun a => 0 ≤ a.1 ∧ a.1 ≤ 9007199254740991), ret := fun a => (digs a.1.toNat, ()) }
def dg_h (N : Int) : LH D := ⟨Nat × Nat × List UInt8, [0, 3], fun i => [.i .i64 (i.2.1 : Nat), .own 0], fun i => i.2.1 < 256 ^ i.1 ∧ digs N.toNat = digsF i.1 i.2.1 ++ i.2.2 ∧ i.1 + i.2.2.length ≤ 8 ∧ i.2.1 ≤ 9007199254740991, fun i => i.1, [(.sl 3, .u8, 5)], fun i => [.arr .u8 5 i.2.2], [], fun _ => []⟩
theorem tmod256 {n : Nat} : Int.toNat (IntKind.wrap .u8 (Int.tmod (n : Int) 256)) = n % 256 := by
  have h : Int.tmod (n : Int) 256 = ((n % 256 : Nat) : Int) := by rw [Int.tmod_eq_emod_of_nonneg (by omega)]; omega
  rw [h, IntKind.wrap_u8]; omega
theorem tdiv256 {n : Nat} (h : n ≤ 9007199254740991) : IntKind.wrap .i64 (Int.tdiv (n : Int) 256) = ((n / 256 : Nat) : Int) := by
  have h2 : Int.tdiv (n : Int) 256 = ((n / 256 : Nat) : Int) := by rw [Int.tdiv_eq_ediv_of_nonneg (by omega)]; omega
  rw [h2]; exact wrap_i64_nat (by omega)
theorem dg_ok : dg_c.ok Tryz.prog 208 := Con.prove (c := dg_c) EF Z0 K0 (H := fun a _ i => match i with | 2 => some (.inv (dg_h a.1)) | _ => none) (n := 4) fun (a : HL D dg_c.ts) (hp : dg_c.holds a) =>
  And.intro (⟨(8, a.1.toNat, []), by
      have h : 0 ≤ a.1 := hp.1
      show [iv a.1, .own 0] = [SV.i .i64 ((a.1.toNat : Nat) : Int), .own 0]
      rw [Int.toNat_of_nonneg h], rfl, rfl, by
      have h : a.1 ≤ 9007199254740991 := hp.2
      have h0 : 0 ≤ a.1 := hp.1
      refine ⟨?_, ?_, Nat.le_refl _, ?_⟩
      · show a.1.toNat < 256 ^ 8
        have : a.1.toNat ≤ 9007199254740991 := Int.toNat_le.2 h
        omega
      · show _ = digsF 8 a.1.toNat ++ []
        rw [List.append_nil]; rfl
      · exact Int.toNat_le.2 h⟩ : Ent (dg_h a.1) [iv a.1, .own 0] [.arr .u8 5 []] [])
  fun (i : Nat × Nat × List UInt8) (hI : (dg_h a.1).inv i) =>
  bq (decide ((0 : Int) < (i.2.1 : Int))) (fun h2 =>
    brN (c := Nat.ble ((List.length [UInt8.ofNat (Int.toNat (IntKind.wrap .u8 (Int.tmod (i.2.1 : Int) (256 : Int))))] + List.length i.2.2) * mulB Tryz.prog 5) maxL) (by
      rw [mb5]; exact Nat.ble_eq_true_of_le (by have h : i.1 + i.2.2.length ≤ 8 := hI.2.2.1; simp only [List.length_singleton]; unfold maxL; omega)) (
    (by
      obtain ⟨k1, k2, k3, k4⟩ := hI
      obtain ⟨g, hg, e1, e2⟩ := digsF_pos (by simpa using h2) k1
      exact ⟨(g, i.2.1 / 256, [UInt8.ofNat (i.2.1 % 256)] ++ i.2.2), by rw [tdiv256 k4]; rfl, by rw [tmod256]; rfl, rfl, ⟨e2, by rw [k2, e1, List.append_assoc], by show g + ([UInt8.ofNat (i.2.1 % 256)] ++ i.2.2).length ≤ 8; simp; omega, by show i.2.1 / 256 ≤ _; omega⟩, by show g < i.1; omega⟩ :
      Rnd (dg_h a.1) i [iv (IntKind.wrap .i64 (Int.tdiv (i.2.1 : Int) (256 : Int))), .own 0] [.arr .u8 5 ([UInt8.ofNat (Int.toNat (IntKind.wrap .u8 (Int.tmod (i.2.1 : Int) (256 : Int))))] ++ i.2.2)] [])))
  (fun h2 => (by
    have h : i.2.1 = 0 := by simpa using h2
    have k2 : digs a.1.toNat = digsF i.1 i.2.1 ++ i.2.2 := hI.2.1
    rw [h, digsF_zero, List.nil_append] at k2
    show some (i.2.2, ()) = some (digs a.1.toNat, ())
    rw [k2] : some (i.2.2, ()) = some (dg_c.ret a)))
/-! ### 177 bastideref01.Num, 286 bin.Num -/
def numB (n : Nat) : List UInt8 := UInt8.ofNat (digs n).length :: digs n
def num_p (a : HL D [.int]) : HL D [.sl .u8, .int] := bif decide (a.1 < 0) then ([], 9, ()) else bif decide (9007199254740991 < a.1) then ([], 9, ()) else (numB a.1.toNat, 0, ())
def num_c : Con D := { ts := [.int], rt := [.sl .u8, .int], ret := num_p }
theorem digsF_le : ∀ {f n : Nat}, (digsF f n).length ≤ f
  | 0, _ => Nat.le_refl _
  | f + 1, n => by
    unfold digsF
    cases Nat.beq n 0 with
    | true => simp
    | false => have := digsF_le (f := f) (n := n / 256); simp; exact this
theorem digsF_len : ∀ {f n k : Nat}, n < 256 ^ f → (k < (digsF f n).length ↔ 0 < n / 256 ^ k)
  | 0, n, k, hf => by
    have : n = 0 := by simpa using hf
    subst this; simp [digsF]
  | f + 1, n, k, hf => by
    cases n with
    | zero => simp [digsF]
    | succ m =>
      have hf' : (m + 1) / 256 < 256 ^ f := by rw [Nat.pow_succ] at hf; omega
      have e : digsF (f + 1) (m + 1) = digsF f ((m + 1) / 256) ++ [UInt8.ofNat ((m + 1) % 256)] := rfl
      rw [e, List.length_append, List.length_singleton]
      cases k with
      | zero => simp
      | succ k =>
        have := digsF_len (k := k) hf'
        rw [Nat.pow_succ, Nat.mul_comm, ← Nat.div_div_eq_div_mul, ← this]; omega
theorem digsF_get : ∀ {f n k : Nat}, n < 256 ^ f → k < (digsF f n).length → (digsF f n)[(digsF f n).length - 1 - k]? = some (UInt8.ofNat (n / 256 ^ k % 256))
  | 0, n, k, hf, h => by simp [digsF] at h
  | f + 1, n, k, hf, h => by
    cases n with
    | zero => simp [digsF] at h
    | succ m =>
      have hf' : (m + 1) / 256 < 256 ^ f := by rw [Nat.pow_succ] at hf; omega
      have e : digsF (f + 1) (m + 1) = digsF f ((m + 1) / 256) ++ [UInt8.ofNat ((m + 1) % 256)] := rfl
      rw [e, List.length_append, List.length_singleton] at h ⊢
      cases k with
      | zero =>
        rw [show (digsF f ((m + 1) / 256)).length + 1 - 1 - 0 = (digsF f ((m + 1) / 256)).length by omega, List.getElem?_append_right (Nat.le_refl _)]
        simp
      | succ k =>
        have := digsF_get (k := k) hf' (by omega)
        rw [show (digsF f ((m + 1) / 256)).length + 1 - 1 - (k + 1) = (digsF f ((m + 1) / 256)).length - 1 - k by omega, List.getElem?_append_left (by omega), this,
          Nat.pow_succ, Nat.mul_comm (256 ^ k), ← Nat.div_div_eq_div_mul]
theorem shr_eq {N : Int} {k : Nat} (h0 : 0 ≤ N) (hk : k ≤ 8) : shrK .i64 N (IntKind.wrap .i64 (8 * (k : Int))) = ((N.toNat / 256 ^ k : Nat) : Int) := by
  have e1 : IntKind.wrap .i64 (8 * (k : Int)) = ((8 * k : Nat) : Int) := by rw [show 8 * (k : Int) = ((8 * k : Nat) : Int) by omega]; exact wrap_i64_nat (by omega)
  obtain ⟨n, rfl⟩ := Int.eq_ofNat_of_zero_le h0
  rw [e1]
  show ((n : Int)).fdiv (2 ^ (min ((8 * k : Nat) : Int).toNat 64)) = _
  have e2 : min ((8 * k : Nat) : Int).toNat 64 = 8 * k := by rw [Int.toNat_natCast]; omega
  have e3 : (2 : Int) ^ (8 * k) = ((256 ^ k : Nat) : Int) := by rw [Int.pow_mul]; simp
  rw [e2, e3, Int.fdiv_eq_ediv_of_nonneg _ (Int.natCast_nonneg _), Int.toNat_natCast]
  exact (Int.natCast_ediv n (256 ^ k)).symm
theorem u8_nat {m : Nat} : Int.toNat (IntKind.wrap .u8 (m : Int)) = m % 256 := by rw [IntKind.wrap_u8]; omega
def num_h1 (N : Int) : LH D := ⟨Nat, [4], fun k => [.i .i64 (k : Nat)], fun k => k ≤ (digs N.toNat).length, fun k => 8 - k, [], fun _ => [], [], fun _ => []⟩
def num_h2 (N : Int) : LH D := ⟨Nat, [24, 5], fun k => [.i .i64 (k : Nat), .own 0], fun k => k ≤ (digs N.toNat).length, fun k => 8 - k, [(.sl 5, .u8, 5)], fun k => [.arr .u8 5 (UInt8.ofNat (digs N.toNat).length :: (digs N.toNat).take k)], [], fun _ => []⟩
theorem num_ok : num_c.ok Tryz.prog 286 := Con.prove (c := num_c) EF Z0 K0 (H := fun a _ i => match i with | 4 => some (.inv (num_h1 a.1)) | 8 => some (.inv (num_h2 a.1)) | _ => none) (n := 4) fun (a : HL D num_c.ts) (_ : num_c.holds a) =>
  bq (decide (a.1 < (0 : Int))) (fun h1 => num_c.lf a (ct h1 rfl)) (fun h1 =>
  bq (decide ((9007199254740991 : Int) < a.1)) (fun h2 => num_c.lf a (cf h1 (ct h2 rfl))) (fun h2 =>
  have h0 : 0 ≤ a.1 := Int.not_lt.1 (of_decide_eq_false h1)
  have hm : a.1.toNat < 256 ^ 8 := by
    have : a.1 ≤ 9007199254740991 := Int.not_lt.1 (of_decide_eq_false h2)
    have : a.1.toNat ≤ 9007199254740991 := Int.toNat_le.2 this
    omega
  have hL : (digs a.1.toNat).length ≤ 8 := digsF_le
  And.intro (⟨(0 : Nat), rfl, rfl, rfl, Nat.zero_le _⟩ : Ent (num_h1 a.1) [iv 0] [] [])
  fun (k : Nat) (hk : (num_h1 a.1).inv k) =>
  have hk : k ≤ (digs a.1.toNat).length := hk
  have hs := shr_eq (k := k) h0 (Nat.le_trans hk hL)
  brN (c := decide ((0 : Int) ≤ IntKind.wrap .i64 ((8 : Int) * (k : Int)))) (by
    rw [show 8 * (k : Int) = ((8 * k : Nat) : Int) by omega, wrap_i64_nat (by omega)]; simp; omega) (
  bq (decide ((0 : Int) < shrK .i64 a.1 (IntKind.wrap .i64 ((8 : Int) * (k : Int))))) (fun h4 =>
    (by
      have h4' : k < (digs a.1.toNat).length := (digsF_len hm).2 (by rw [hs] at h4; have := of_decide_eq_true h4; omega)
      exact ⟨(k + 1 : Nat), by rw [wrap1 h4' (by unfold maxL; omega)]; rfl, rfl, rfl, h4', by show 8 - (k + 1) < 8 - k; omega⟩ : Rnd (num_h1 a.1) k [iv (IntKind.wrap .i64 ((k : Int) + 1))] [] []))
  (fun h4 =>
    have hkL : k = (digs a.1.toNat).length := by
      have : ¬ k < (digs a.1.toNat).length := fun h => by
        have := (digsF_len hm).1 h
        rw [hs] at h4; have := of_decide_eq_false h4; omega
      omega
    And.intro (by
      refine ⟨(0 : Nat), rfl, ?_, rfl, Nat.zero_le _⟩
      show [HB.arr .u8 5 [UInt8.ofNat (Int.toNat (IntKind.wrap .u8 (k : Int)))]] = [HB.arr .u8 5 [UInt8.ofNat (digs a.1.toNat).length]]
      rw [u8_nat, ← hkL, Nat.mod_eq_of_lt (by omega)] : Ent (num_h2 a.1) [iv 0, .own 0] [.arr .u8 5 [UInt8.ofNat (Int.toNat (IntKind.wrap .u8 (k : Int)))]] [])
    fun (i : Nat) (hi : (num_h2 a.1).inv i) =>
    have hi : i ≤ (digs a.1.toNat).length := hi
    bq (decide ((i : Int) < (k : Int))) (fun h6 =>
      have h6' : i < k := by simpa using h6
      have hw : IntKind.wrap .i64 (IntKind.wrap .i64 ((k : Int) - 1) - (i : Int)) = ((k - 1 - i : Nat) : Int) := by
        rw [show (k : Int) - 1 = ((k - 1 : Nat) : Int) by omega, wrap_i64_nat (by omega), show ((k - 1 : Nat) : Int) - (i : Int) = ((k - 1 - i : Nat) : Int) by omega, wrap_i64_nat (by omega)]
      brN (c := decide ((0 : Int) ≤ IntKind.wrap .i64 ((8 : Int) * IntKind.wrap .i64 (IntKind.wrap .i64 ((k : Int) - 1) - (i : Int))))) (by
        rw [hw, show 8 * ((k - 1 - i : Nat) : Int) = ((8 * (k - 1 - i) : Nat) : Int) by omega, wrap_i64_nat (by omega)]; simp; omega) (
      brN (c := Nat.ble ((List.length (UInt8.ofNat (List.length (digs (Int.toNat a.1))) :: List.take i (digs (Int.toNat a.1))) + List.length [UInt8.ofNat (Int.toNat (IntKind.wrap .u8 (shrK .i64 a.1 (IntKind.wrap .i64 ((8 : Int) * IntKind.wrap .i64 (IntKind.wrap .i64 ((k : Int) - 1) - (i : Int)))))))]) * mulB Tryz.prog 5) maxL) (by
        rw [mb5]; exact Nat.ble_eq_true_of_le (by simp only [List.length_cons, List.length_take, List.length_nil]; unfold maxL; omega)) (
      (by
        have hs2 := shr_eq (k := k - 1 - i) h0 (by omega)
        have hg := digsF_get (k := k - 1 - i) hm (by show _ < (digs a.1.toNat).length; omega)
        have hg' : (digs a.1.toNat)[i]? = some (UInt8.ofNat (a.1.toNat / 256 ^ (k - 1 - i) % 256)) := by
          rw [← hg]; congr 1; show i = (digs a.1.toNat).length - 1 - (k - 1 - i); omega
        refine ⟨(i + 1 : Nat), ?_, ?_, rfl, by show i + 1 ≤ _; omega, by show 8 - (i + 1) < 8 - i; omega⟩
        · rw [wrap1 h6' (by unfold maxL; omega)]; rfl
        · show [HB.arr .u8 5 (UInt8.ofNat (digs a.1.toNat).length :: List.take i (digs a.1.toNat) ++ [_])] = [HB.arr .u8 5 (UInt8.ofNat (digs a.1.toNat).length :: (digs a.1.toNat).take (i + 1))]
          rw [hw, hs2, u8_nat, List.take_succ, hg']; rfl :
        Rnd (num_h2 a.1) i [iv (IntKind.wrap .i64 ((i : Int) + 1)), .own 0] [.arr .u8 5 (UInt8.ofNat (List.length (digs (Int.toNat a.1))) :: List.take i (digs (Int.toNat a.1)) ++ [UInt8.ofNat (Int.toNat (IntKind.wrap .u8 (shrK .i64 a.1 (IntKind.wrap .i64 ((8 : Int) * IntKind.wrap .i64 (IntKind.wrap .i64 ((k : Int) - 1) - (i : Int)))))))])] []))))
    (fun h6 => num_c.lf a (cf h1 (cf h2 (by
      have h6' : ¬ i < k := by simpa using h6
      show (UInt8.ofNat (digs a.1.toNat).length :: List.take i (digs a.1.toNat), (0 : Int), ()) = (numB a.1.toNat, 0, ())
      rw [List.take_of_length_le (by omega)]; rfl))))))))
theorem refNum_ok : num_c.ok Tryz.prog 177 := Con.prove (c := num_c) EF Z0 (K0.c dg_ok) (H := H0) (n := 4) fun (a : HL D num_c.ts) (_ : num_c.holds a) =>
  bq (decide (a.1 < (0 : Int))) (fun h1 => num_c.lf a (ct h1 rfl)) (fun h1 =>
  bq (decide ((9007199254740991 : Int) < a.1)) (fun h2 => num_c.lf a (cf h1 (ct h2 rfl))) (fun h2 =>
  And.intro (Pre.mk (p := 0 ≤ a.1 ∧ a.1 ≤ 9007199254740991) ⟨Int.not_lt.1 (of_decide_eq_false h1), Int.not_lt.1 (of_decide_eq_false h2)⟩) (
  brL fun hl : (digs a.1.toNat).length ≤ maxL =>
  have hL : (digs a.1.toNat).length ≤ 8 := digsF_le
  brN (c := Nat.ble ((List.length [UInt8.ofNat (Int.toNat (IntKind.wrap .u8 ((digs a.1.toNat).length : Int)))] + (digs a.1.toNat).length) * mulB Tryz.prog 5) maxL) (by
    rw [mb5]; exact Nat.ble_eq_true_of_le (by simp only [List.length_singleton]; unfold maxL; omega))
  (num_c.lf a (cf h1 (cf h2 (by
    show (UInt8.ofNat (Int.toNat (IntKind.wrap .u8 ((digs a.1.toNat).length : Int))) :: digs a.1.toNat, (0 : Int), ()) = (numB a.1.toNat, 0, ())
    rw [u8_nat, Nat.mod_eq_of_lt (by omega)]; rfl)))))))
end Go.Proofs.YtpbcabanpppfoaaGreat
