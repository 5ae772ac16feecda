/- Change: which changes are ready, walked by reckoning. No condition. -/
import Derived.Test.YtpbcabanpppfoaaGreatCzZ
import Derived.Test.YtpbcabanpppfoaaGreatCzP
import Derived.Test.YtpbcabanpppfoaaGreatCzW
set_option linter.all false
namespace Go.Proofs.YtpbcabanpppfoaaGreat
open Go Go.Gx Go.Vz
set_option maxRecDepth 100000
theorem mb41 : mulB Tryz.prog 41 = 96 := by kernel_rfl
/-! ### 22 (*Council).Ready -/
def rdyN (k : KD) : Int := IntKind.wrap .i64 (IntKind.wrap .i64 (2 * (kCr k).faults) - 1)
def rdyB (k : KD) (v : Int) (x : Int) : Bool := bif (sd (kCh k) x).change.view == v then (bif x == kSf k then true else decide (rdyN k ≤ (hrN k (sd (kCh k) x) (kSf k) : Int))) else false
abbrev rdyK (k : KD) : List Int := isort (keysK k)
def rdyL (k : KD) (v : Int) (xs : List Int) : List Change := (xs.filter (rdyB k v)).map fun x => (sd (kCh k) x).change
def rdy_h (k : KD) (v : Int) : LH D := ⟨List Change × Nat, [4, 17], fun i => [.own 0, iv i.2], fun i => i.2 ≤ (rdyK k).length ∧ i.1 = rdyL k v ((rdyK k).take i.2), fun i => (rdyK k).length - i.2, [(.sl 4, .st 3, 41)], fun i => [.arr (.st 3) 41 i.1], [], fun _ => []⟩
def rdy_c : OCon D := { ash := [.nm 0, .dat .int], es := KS, rsh := [.dat (.sl (.st 3))], pes := KS, pre := some (fun _ k => okK k), post := fun a k => ((rdyL k a.1 (rdyK k), ()), k) }
theorem rdyK_len {k : KD} (h : okK k) : (rdyK k).length ≤ 1000 := by rw [isort_length]; unfold keysK; rw [List.length_map]; exact h.len
theorem rdyL_le {k : KD} {v : Int} {xs : List Int} : (rdyL k v xs).length ≤ xs.length := by unfold rdyL; rw [List.length_map]; exact List.length_filter_le _ _
theorem rdyL_y {k : KD} {v : Int} {xs : List Int} {i : Nat} (hi : i < xs.length) (e : rdyB k v (xs.getD i 0) = true) : rdyL k v (xs.take (i + 1)) = rdyL k v (xs.take i) ++ [(sd (kCh k) (xs.getD i 0)).change] := by
  unfold rdyL
  rw [List.getD_eq_getElem?_getD, List.getElem?_eq_getElem hi, Option.getD_some] at e ⊢
  rw [List.take_succ_eq_append_getElem hi, List.filter_append, List.map_append]
  simp [e]
theorem rdyL_n {k : KD} {v : Int} {xs : List Int} {i : Nat} (hi : i < xs.length) (e : rdyB k v (xs.getD i 0) = false) : rdyL k v (xs.take (i + 1)) = rdyL k v (xs.take i) := by
  unfold rdyL
  rw [List.getD_eq_getElem?_getD, List.getElem?_eq_getElem hi, Option.getD_some] at e
  rw [List.take_succ_eq_append_getElem hi, List.filter_append, List.map_append]
  simp [e]
def rdyH (a : CL D rdy_c.ash) (k : KD) : Nat → Nat → Option (Hint D) := fun f r => match f, r with | 22, 4 => some (.inv (rdy_h k a.1)) | _, _ => none
theorem rdy_ok : rdy_c.looks EF Tryz.prog 22 := OCon.proveL (c := rdy_c) EF Zk.skip (H := rdyH) (call := fun a k => callK (rdyH a k) 3) (fun a k => callK_ok (rdyH a k) 3) fun (a : CL D rdy_c.ash) (k : KD) (hp : rdy_c.holds a k) =>
  have hp : okK k := hp
  have hl := rdyK_len hp
  And.intro (Pre.mk ⟨hp.len, fun p hm => (hp.ch p hm).2⟩ : Pre (smallK (kCh k))) (
  brL fun _ : (rdyK k).length ≤ maxL =>
  And.intro (⟨(([] : List Change), (0 : Nat)), rfl, rfl, rfl, Nat.zero_le _, rfl⟩ : Ent (rdy_h k a.1) [SV.own 0, SV.i IntKind.i64 (0 : Int)] [HB.arr (.st 3) 41 ([] : List Change)] []) (
  fun (i : List Change × Nat) (hI : i.2 ≤ (rdyK k).length ∧ i.1 = rdyL k a.1 ((rdyK k).take i.2)) =>
  have h1 : i.1.length ≤ 1000 := by rw [hI.2]; exact Nat.le_trans rdyL_le (by rw [List.length_take]; omega)
  bq (decide ((i.2 : Int) < ((rdyK k).length : Int))) (fun h3 =>
    have hi : i.2 < (rdyK k).length := by have := of_decide_eq_true h3; omega
    have hc := sd_okC hp ((rdyK k).getD i.2 0)
    have up (e : rdyB k a.1 ((rdyK k).getD i.2 0) = true) := And.intro (Pre.mk hc.1 : Pre ((sd (kCh k) ((rdyK k).getD i.2 0)).change.marks.length ≤ 1000000)) (
      And.intro (Pre.mk hc.2.1 : Pre ((sd (kCh k) ((rdyK k).getD i.2 0)).change.p.length ≤ 1000000)) (
      And.intro (Pre.mk hc.2.2 : Pre ((sd (kCh k) ((rdyK k).getD i.2 0)).change.q.length ≤ 1000000)) (
      brN (c := Nat.ble ((i.1.length + 1) * mulB Tryz.prog 41) maxL) (by rw [mb41]; exact Nat.ble_eq_true_of_le (by unfold maxL; omega)) (
      (⟨(i.1 ++ [(sd (kCh k) ((rdyK k).getD i.2 0)).change], i.2 + 1), by
        show _ = [SV.own 0, iv ((i.2 + 1 : Nat) : Int)]
        rw [wr1 (by omega)], rfl, rfl, ⟨hi, by rw [rdyL_y hi e, ← hI.2]⟩, by show (rdyK k).length - (i.2 + 1) < (rdyK k).length - i.2; omega⟩ : Rnd (rdy_h k a.1) i [SV.own 0, SV.i IntKind.i64 (IntKind.wrap .i64 ((i.2 : Int) + 1))] [HB.arr (.st 3) 41 (i.1 ++ [(sd (kCh k) ((rdyK k).getD i.2 0)).change])] [])))))
    have st (e : rdyB k a.1 ((rdyK k).getD i.2 0) = false) : Rnd (rdy_h k a.1) i [SV.own 0, SV.i IntKind.i64 (IntKind.wrap .i64 ((i.2 : Int) + 1))] [HB.arr (.st 3) 41 i.1] [] := ⟨(i.1, i.2 + 1), by
        show _ = [SV.own 0, iv ((i.2 + 1 : Nat) : Int)]
        rw [wr1 (by omega)], rfl, rfl, ⟨hi, by rw [rdyL_n hi e]; exact hI.2⟩, by show (rdyK k).length - (i.2 + 1) < (rdyK k).length - i.2; omega⟩
    brN (c := decide ((0 : Int) ≤ (i.2 : Int)) && decide ((i.2 : Int) < ((rdyK k).length : Int))) (by simp; omega) (
    bq ((sd (kCh k) ((rdyK k).getD i.2 0)).change.view == a.1) (fun h4 =>
      bq ((rdyK k).getD i.2 0 == kSf k) (fun h5 => up (by unfold rdyB; rw [h4, h5]; rfl)) (fun h5 =>
      And.intro (Pre.mk hp : Pre (okK k)) (
      bq (decide (rdyN k ≤ (hrN k (sd (kCh k) ((rdyK k).getD i.2 0)) (kSf k) : Int))) (fun h6 => up (by unfold rdyB; rw [h4, h5, h6]; rfl)) (fun h6 => st (by unfold rdyB; rw [h4, h5, h6]; rfl)))))
    (fun h4 => st (by unfold rdyB; rw [h4]; rfl))))
  (fun h3 => (by
    have hi : i.2 = (rdyK k).length := by have := of_decide_eq_false h3; omega
    have e : i.1 = rdyL k a.1 (rdyK k) := by rw [hI.2, hi, List.take_length]
    rw [e]; rfl : some (i.1, ()) = some (rdy_c.post a k).1))))
end Go.Proofs.YtpbcabanpppfoaaGreat

namespace Go.Proofs.YtpbcabanpppfoaaGreat
open Go Go.Gx Go.Vz
set_option maxRecDepth 100000
/-! ### 34 crewOf -/
def crewA : Crew := ⟨1, [1, 2, 3, 4]⟩
def crewB : Crew := ⟨2, [1, 2, 3, 4, 5, 6, 7]⟩
def crewS (f : Int) : Crew := bif f == 1 then crewA else crewB
def cr1_c : Con D := { ts := [.int], rt := [.st 0], pre := some (fun a => a = ((1 : Int), ())), ret := fun _ => (crewA, ()) }
def cr2_c : Con D := { ts := [.int], rt := [.st 0], pre := some (fun a => a = ((2 : Int), ())), ret := fun _ => (crewB, ()) }
def crU : HL D cr1_c.ts → Nat → Nat → Option (Hint D) := fun _ _ _ => some (.unr 9)
theorem cr1_ok : cr1_c.ok Tryz.prog 34 := Con.proveS (c := cr1_c) EF Z0 K0 (fun _ : Unit => ((1 : Int), ())) (fun _ => True) (fun a h => ⟨(), h, trivial⟩) (H := fun _ => crU ((0 : Int), ())) (n := 1) fun (_ : Unit) (_ : True) => (rfl : some (crewA, ()) = some (crewA, ()))
theorem cr2_ok : cr2_c.ok Tryz.prog 34 := Con.proveS (c := cr2_c) EF Z0 K0 (fun _ : Unit => ((2 : Int), ())) (fun _ => True) (fun a h => ⟨(), h, trivial⟩) (H := fun _ => crU ((0 : Int), ())) (n := 1) fun (_ : Unit) (_ : True) => (rfl : some (crewB, ()) = some (crewB, ()))
def crw_c : Con D := { ts := [.int], rt := [.st 0], pre := some (fun a => a.1 = 1 ∨ a.1 = 2), ret := fun a => (crewS a.1, ()) }
theorem crw_ok : crw_c.ok Tryz.prog 34 := by
  intro a G w vs hw hp hv
  obtain ⟨x, u⟩ := a
  rcases (hp : x = 1 ∨ x = 2) with rfl | rfl
  · exact cr1_ok ((1 : Int), u) G w vs hw rfl hv
  · exact cr2_ok ((2 : Int), u) G w vs hw rfl hv
/-! ### 10 fresh -/
abbrev PS : List ES := [.box 107 [.nm 1, .nm 2, .dat .int], .map .dig .str, .map .str .bool, .box 93 [.nm 0, .dat (.st 0), .dat .int, .dat .int, .dat .int, .nm 4, .nm 5], .map .int (.st 8), .map (.st 10) (.st 9)]
def okF (f self : Int) : Prop := (f = 1 ∨ f = 2) ∧ 1 ≤ self ∧ self ≤ 3 * f + 1
theorem okF_new {f self : Int} (h : okF f self) : (bif check (crewS f) != 0 then true else !hasB (crewS f) self) = false := by
  obtain ⟨rfl | rfl, h1, h2⟩ := h
  · have : self = 1 ∨ self = 2 ∨ self = 3 ∨ self = 4 := by omega
    rcases this with rfl | rfl | rfl | rfl <;> rfl
  · have : self = 1 ∨ self = 2 ∨ self = 3 ∨ self = 4 ∨ self = 5 ∨ self = 6 ∨ self = 7 := by omega
    rcases this with rfl | rfl | rfl | rfl | rfl | rfl | rfl <;> rfl
theorem crewS_len (f : Int) : (crewS f).nodes.length ≤ 1000000 := by
  unfold crewS
  cases f == 1 <;> decide
abbrev Γf1 : Nat → Option (Con D) := addC Γk 34 crw_c
theorem Kf2 : Kept EF Tryz.prog Γf1 Δk := Kk2.c crw_ok
def fr_c : OCon D := { ash := [.nm 0, .dat .int, .dat .int], es := BS, rsh := [.nm 3], pes := PS, pre := some (fun a _ => okF a.1 a.2.1), post := fun a e => ((), e.1, e.2.1, e.2.2.1, (crewS a.1, a.2.1, 1, 1, ()), [], [], ()) }
theorem fr_ok : fr_c.ok EF Tryz.prog 10 := OCon.proveH (c := fr_c) EF Zk.skip (H := fun _ _ _ _ => none) (call := fun _ _ => callsL EF Zk.skip (fun _ => none) Γf1 Δk (fun _ _ => none) 3) (fun _ _ => callsL_ok Looks.nil Kf2 3) fun (a : CL D fr_c.ash) (e : EL D fr_c.es) (hp : fr_c.holds a e) =>
  have hp : okF a.1 a.2.1 := hp
  And.intro (Pre.mk hp.1 : Pre (a.1 = 1 ∨ a.1 = 2)) (
  bq (bif check (crewS a.1) != 0 then true else !hasB (crewS a.1) a.2.1) (fun h1 => (by rw [okF_new hp] at h1; exact absurd h1 (by decide) : none = some (fr_c.post a e))) (fun _ =>
  And.intro (Pre.mk (crewS_len a.1) : Pre ((crewS a.1).nodes.length ≤ 1000000)) (
  (rfl : some ((), (e.1.1, ()), e.2.1, e.2.2.1, (crewS a.1, a.2.1, (1 : Int), (1 : Int), ()), [], [], ()) = some (fr_c.post a e)))))
end Go.Proofs.YtpbcabanpppfoaaGreat

namespace Go.Proofs.YtpbcabanpppfoaaGreat
open Go Go.Gx Go.Vz
set_option maxRecDepth 100000
/-! ### 49 bastideref12.Change -/
abbrev Γr1 : Nat → Option (Con D) := addC noC 177 num_c
theorem Kr1 : Kept EF Tryz.prog Γr1 noO := K0.c refNum_ok
noncomputable def ZQ : ZF Tryz.prog D := (Z0.side Kr1).skip
theorem rch_ok : chg_c.ok Tryz.prog 49 := Con.proveS (c := chg_c) EF ZQ Kr1 (fun i : Int × Int × UInt8 => (says i.1 i.2.1 i.2.2, ())) chOk (fun a h => h) (H := fun _ _ _ => some (.unr 40)) (n := 6) fun (i : Int × Int × UInt8) (hq : chOk i) =>
  have q1 := hq.1
  have q2 := hq.2.1
  have q3 := hq.2.2.1
  have q4 := hq.2.2.2
  bq (!bif decide ((1 : Int) ≤ i.1) then decide (i.1 ≤ (28 : Int)) else false) (fun h1 => (by simp [q1, q2] at h1 : some ([], 2, ()) = some (chg_c.ret (says i.1 i.2.1 i.2.2, ())))) (fun _ =>
  bq (!bif decide ((1 : Int) ≤ i.2.1) then decide (i.2.1 ≤ (1048576 : Int)) else false) (fun h1 => (by simp [q3, show i.2.1 ≤ 1048576 by omega] at h1 : some ([], 2, ()) = some (chg_c.ret (says i.1 i.2.1 i.2.2, ())))) (fun _ =>
  bq (bif bif bif decide ((1 : Int) ≤ 0) then true else decide (IntKind.wrap .i64 ((0 : Int) + 8) < (1 : Int)) then true else decide ((0 : Int) < 0) then true else decide (i.2.1 ≤ (0 : Int))) (fun h1 => (by
      have e : decide (i.2.1 ≤ (0 : Int)) = false := by simp; omega
      rw [e] at h1; exact absurd h1 (by decide) : some ([], 2, ()) = some (chg_c.ret (says i.1 i.2.1 i.2.2, ())))) (fun _ =>
  brN (c := Nat.ble ((List.length ([] : List UInt8) + (N i.1).length) * mulB Tryz.prog 5) maxL) (app_ok 0 (Nat.le_refl _) (N_len _) (by omega)) (
  brN (c := Nat.ble (((w1 i.1).length + (N i.2.1).length) * mulB Tryz.prog 5) maxL) (app_ok 1 (l1 _) (N_len _) (by omega)) (
  brN (c := Nat.ble (((w2 i.1 i.2.1).length + (N 0).length) * mulB Tryz.prog 5) maxL) (app_ok 2 (l2 _ _) (N_len _) (by omega)) (
  brN (c := Nat.ble (((w3 i.1 i.2.1).length + (N (1 : Nat)).length) * mulB Tryz.prog 5) maxL) (app_ok 3 (l3 _ _) (N_len _) (by omega)) (
  brN (c := Nat.ble (((w4 i.1 i.2.1).length + (N 0).length) * mulB Tryz.prog 5) maxL) (app_ok 4 (l4 _ _) (N_len _) (by omega)) (
  brN (c := Nat.ble (((w5 i.1 i.2.1).length + (dig1 9).l.length) * mulB Tryz.prog 5) maxL) (app_ok 5 (l5 _ _) (D_len _) (by omega)) (
  brN (c := Nat.ble (((w6 i.1 i.2.1).length + (N (0 : Nat)).length) * mulB Tryz.prog 5) maxL) (app_ok 6 (l6 _ _) (N_len _) (by omega)) (
  brN (c := Nat.ble (((w7 i.1 i.2.1).length + (N (1 : Nat)).length) * mulB Tryz.prog 5) maxL) (app_ok 7 (l7 _ _) (N_len _) (by omega)) (
  brN (c := Nat.ble (((w8 i.1 i.2.1).length + (N 1).length) * mulB Tryz.prog 5) maxL) (app_ok 8 (l8 _ _) (N_len _) (by omega)) (
  brN (c := Nat.ble (((w9 i.1 i.2.1).length + (dig2 i.2.2 1).l.length) * mulB Tryz.prog 5) maxL) (app_ok 9 (l9 _ _) (D_len _) (by omega)) (
  brN (c := Nat.ble (((w10 i.1 i.2.1 i.2.2).length + (N 0).length) * mulB Tryz.prog 5) maxL) (app_ok 10 (l10 _ _ _) (N_len _) (by omega)) (
  (by rw [w_eq]; rfl : some (w11 i.1 i.2.1 i.2.2, 0, ()) = some (chg_c.ret (says i.1 i.2.1 i.2.2, ())))))))))))))))))
end Go.Proofs.YtpbcabanpppfoaaGreat

namespace Go.Proofs.YtpbcabanpppfoaaGreat
open Go Go.Gx Go.Vz
set_option maxRecDepth 100000
/-! ### 111 bastideref02.Padded -/
def zP (b : List UInt8) : Nat := 63 - (b.length + 8) % 64
def lbU (all : Int) (i : Nat) : UInt8 := UInt8.ofNat (Int.toNat (IntKind.wrap .u8 (shrK .u64 (IntKind.wrap .u64 (8 * IntKind.wrap .u64 all)) (IntKind.wrap .i64 (8 * ((i : Nat) : Int))))))
def pad0 (b : List UInt8) (k : Nat) : List UInt8 := (b ++ [128]) ++ List.replicate k 0
def padE (b : List UInt8) (p : List UInt8) : Nat → List UInt8
  | 0 => p
  | i + 1 => padE b p i ++ [lbU (b.length : Nat) (7 - i)]
def padU (b : List UInt8) : List UInt8 := padE b (pad0 b (zP b)) 8
theorem padE_len (b p : List UInt8) : ∀ i, (padE b p i).length = p.length + i
  | 0 => rfl
  | i + 1 => by unfold padE; rw [List.length_append, padE_len b p i]; simp; omega
def pd_h (b : List UInt8) : LH D := ⟨Nat, [3], fun _ => [.own 0], fun k => k ≤ zP b, fun k => zP b - k, [(.sl 3, .u8, 5)], fun k => [.arr .u8 5 (pad0 b k)], [], fun _ => []⟩
def pad_c : Con D := { ts := [.sl .u8], rt := [.sl .u8], pre := some (fun a => a.1.length ≤ 1000000), ret := fun a => (padU a.1, ()) }
theorem pad0_len (b : List UInt8) (k : Nat) : (pad0 b k).length = b.length + 1 + k := by unfold pad0; simp; omega
theorem mx5 {n : Nat} (h : n ≤ 2000000) : Nat.ble (n * mulB Tryz.prog 5) maxL = true := by rw [mb5]; exact Nat.ble_eq_true_of_le (by unfold maxL; omega)
theorem pad_test {b : List UInt8} {k : Nat} (hk : k ≤ zP b) : (Int.tmod ((pad0 b k).length : Int) 64 != 56) = decide (k < zP b) := by
  rw [pad0_len, Int.tmod_eq_emod_of_nonneg (by omega)]
  unfold zP at *
  by_cases h : k < 63 - (b.length + 8) % 64
  · simp only [h, decide_true, bne_iff_ne, ne_eq]; omega
  · simp only [h, decide_false]
    have : ((b.length + 1 + k : Nat) : Int) % 64 = 56 := by omega
    rw [this]; rfl
theorem pad_lt {b : List UInt8} {i : Nat} (h : b.length ≤ 1000000) (hi : i ≤ zP b) (j : Nat) (hj : j ≤ 8) : Nat.ble (((padE b (pad0 b i) j).length + 1) * mulB Tryz.prog 5) maxL = true := mx5 (by rw [padE_len, pad0_len]; unfold zP at hi; omega)
theorem pad_ok : pad_c.ok Tryz.prog 111 := Con.prove (c := pad_c) EF Z0 K0 (H := fun a f r => match f, r with | 111, 2 => some (.inv (pd_h a.1)) | _, _ => some (.unr 9)) (n := 2) fun (a : HL D pad_c.ts) (hp : pad_c.holds a) =>
  have hp : a.1.length ≤ 1000000 := hp
  brN (c := Nat.ble ((0 + a.1.length) * mulB Tryz.prog 5) maxL) (mx5 (by omega)) (
  brN (c := Nat.ble ((a.1.length + 1) * mulB Tryz.prog 5) maxL) (mx5 (by omega)) (
  And.intro (⟨(0 : Nat), rfl, by show _ = [HB.arr .u8 5 (pad0 a.1 0)]; unfold pad0; simp, rfl, Nat.zero_le _⟩ : Ent (pd_h a.1) [.own 0] [.arr .u8 5 (a.1 ++ [128])] [])
  fun (k : Nat) (hk : k ≤ zP a.1) =>
  bq (Int.tmod ((pad0 a.1 k).length : Int) 64 != 56) (fun h2 => have h2' : k < zP a.1 := by rw [pad_test hk] at h2; exact of_decide_eq_true h2
    brN (c := Nat.ble (((pad0 a.1 k).length + 1) * mulB Tryz.prog 5) maxL) (mx5 (by rw [pad0_len]; unfold zP at hk; omega)) (
    (⟨(k + 1 : Nat), rfl, by show _ = [HB.arr .u8 5 (pad0 a.1 (k + 1))]; unfold pad0; rw [List.replicate_succ', ← List.append_assoc], rfl, h2', by show zP a.1 - (k + 1) < zP a.1 - k; omega⟩ : Rnd (pd_h a.1) k [.own 0] [.arr .u8 5 (pad0 a.1 k ++ [0])] [])))
  (fun h2 => have h2' : k = zP a.1 := by rw [pad_test hk] at h2; have := of_decide_eq_false h2; omega
    brL fun _ : a.1.length ≤ maxL =>
    brN (c := Nat.ble (((padE a.1 (pad0 a.1 k) 0).length + 1) * mulB Tryz.prog 5) maxL) (pad_lt hp hk 0 (by omega)) (
    brN (c := Nat.ble (((padE a.1 (pad0 a.1 k) 1).length + 1) * mulB Tryz.prog 5) maxL) (pad_lt hp hk 1 (by omega)) (
    brN (c := Nat.ble (((padE a.1 (pad0 a.1 k) 2).length + 1) * mulB Tryz.prog 5) maxL) (pad_lt hp hk 2 (by omega)) (
    brN (c := Nat.ble (((padE a.1 (pad0 a.1 k) 3).length + 1) * mulB Tryz.prog 5) maxL) (pad_lt hp hk 3 (by omega)) (
    brN (c := Nat.ble (((padE a.1 (pad0 a.1 k) 4).length + 1) * mulB Tryz.prog 5) maxL) (pad_lt hp hk 4 (by omega)) (
    brN (c := Nat.ble (((padE a.1 (pad0 a.1 k) 5).length + 1) * mulB Tryz.prog 5) maxL) (pad_lt hp hk 5 (by omega)) (
    brN (c := Nat.ble (((padE a.1 (pad0 a.1 k) 6).length + 1) * mulB Tryz.prog 5) maxL) (pad_lt hp hk 6 (by omega)) (
    brN (c := Nat.ble (((padE a.1 (pad0 a.1 k) 7).length + 1) * mulB Tryz.prog 5) maxL) (pad_lt hp hk 7 (by omega)) (
    (by rw [h2']; rfl : some (padE a.1 (pad0 a.1 k) 8, ()) = some (pad_c.ret a)))))))))))))
/-! ### 112 First, 149 Roots, 150 Schedule -/
def first_c : Con D := { ts := [], rt := [.st 13], ret := fun _ => (⟨SL⟩, ()) }
theorem first_ok : first_c.ok Tryz.prog 112 := Con.prove (c := first_c) EF Z0 K0 (H := H0) (n := 0) fun (a : HL D first_c.ts) (_ : first_c.holds a) => (rfl : some ((⟨SL⟩ : AV .u32 8), ()) = some (first_c.ret a))
def roots2_c : Con D := { ts := [], rt := [.st 15], ret := fun _ => (⟨KL⟩, ()) }
theorem roots2_ok : roots2_c.ok Tryz.prog 149 := Con.prove (c := roots2_c) EF Z0 K0 (H := H0) (n := 0) fun (a : HL D roots2_c.ts) (_ : roots2_c.holds a) => (rfl : some ((⟨KL⟩ : AV .u32 64), ()) = some (roots2_c.ret a))
def rorR (x : Int) (n : Nat) : Int := bitK .or .u32 (shrK .u32 x (n : Int)) (shlK .u32 x ((32 - n : Nat) : Int))
def ml (x c : Int) : Int := IntKind.wrap .u32 (IntKind.wrap .u32 x * c)
def wq (b : List Int) (i j k l : Nat) : Int := ad (ad (ad (ml (gi b i) 16777216) (ml (gi b j) 65536)) (ml (gi b k) 256)) (IntKind.wrap .u32 (gi b l))
def schedR (b : List Int) : Nat → List Int
  | 0 => List.replicate 64 0
  | t + 1 => bif Nat.blt t 16 then (schedR b t).set t (wq b (4 * t) (4 * t + 1) (4 * t + 2) (4 * t + 3)) else (schedR b t).set t (w16 rorR (schedR b t) (t - 16) (t - 15) (t - 7) (t - 2))
def s1_h (b : List Int) : LH D := ⟨Nat, [4], fun t => [.i .i64 (t : Nat)], fun t => t ≤ 16, fun t => 16 - t, [], fun _ => [], [2], fun t => [.box 217 [.vec .u32 64 (schedR b t)]]⟩
def s2_h (b : List Int) : LH D := ⟨Nat, [5], fun t => [.i .i64 (t : Nat)], fun t => 16 ≤ t ∧ t ≤ 64, fun t => 64 - t, [], fun _ => [], [2], fun t => [.box 217 [.vec .u32 64 (schedR b t)]]⟩
def sched_c : Con D := { ts := [.st 14], rt := [.st 15], ret := fun a => (⟨schedR a.1.l 64⟩, ()) }
theorem e4j {t : Nat} (j : Nat) (h : t < 64) (hj : j < 4) : IntKind.wrap .i64 (IntKind.wrap .i64 ((4 : Int) * (t : Int)) + (j : Int)) = ((4 * t + j : Nat) : Int) := by rw [e4 h, IntWalk.i64_in _ (by omega)]; omega
theorem at4 {t : Nat} (j : Nat) (h : t < 16) (hj : j < 4) : (decide ((0 : Int) ≤ IntKind.wrap .i64 (IntKind.wrap .i64 ((4 : Int) * (t : Int)) + (j : Int))) && decide (IntKind.wrap .i64 (IntKind.wrap .i64 ((4 : Int) * (t : Int)) + (j : Int)) < ((64 : Nat) : Int))) = true := by rw [e4j j (by omega) hj]; simp; omega
abbrev B4 (t : Nat) (j : Int) : Int := IntKind.wrap .i64 (IntKind.wrap .i64 ((4 : Int) * (t : Int)) + j)
theorem s1R (b : List Int) {t : Nat} (h : t < 16) : Rnd (s1_h b) t [iv (IntKind.wrap .i64 ((t : Int) + 1))] [] [.box 217 [.vec .u32 64 ((schedR b t).set t (wq b (Int.toNat (A4 t)) (Int.toNat (B4 t 1)) (Int.toNat (B4 t 2)) (Int.toNat (B4 t 3))))]] :=
  ⟨(t + 1 : Nat), by rw [wrap1 h (by decide)]; rfl, rfl, by
    have : Nat.blt t 16 = true := Nat.ble_eq_true_of_le h
    have q1 := e4j 1 (t := t) (by omega) (by omega)
    have q2 := e4j 2 (t := t) (by omega) (by omega)
    have q3 := e4j 3 (t := t) (by omega) (by omega)
    simp only [Int.cast_ofNat_Int] at q1 q2 q3
    unfold A4 B4
    rw [e4 (by omega), ← e4 (t := t) (by omega)] at *
    rw [q1, q2, q3, e4 (by omega)]
    simp only [s1_h, schedR, this, cond_true, Int.toNat_natCast], by show t + 1 ≤ 16; omega, by show 16 - (t + 1) < 16 - t; omega⟩
theorem s2R (b : List Int) {t : Nat} (ht : t < 64) (h16 : 16 ≤ t) : Rnd (s2_h b) t [iv (IntKind.wrap .i64 ((t : Int) + 1))] [] [.box 217 [.vec .u32 64 ((schedR b t).set t (w16 rorR (schedR b t) (Int.toNat (IntKind.wrap .i64 ((t : Int) - 16))) (Int.toNat (IntKind.wrap .i64 ((t : Int) - 15))) (Int.toNat (IntKind.wrap .i64 ((t : Int) - 7))) (Int.toNat (IntKind.wrap .i64 ((t : Int) - 2)))))]] :=
  ⟨(t + 1 : Nat), by rw [wrap1 ht (by decide)]; rfl, rfl, by
    have : Nat.blt t 16 = false := by
      cases h : Nat.blt t 16 with
      | false => rfl
      | true => have : t < 16 := Nat.le_of_ble_eq_true h; omega
    have e1 := eM 16 ht (by omega)
    have e2 := eM 15 ht (by omega)
    have e3 := eM 7 ht (by omega)
    have e4 := eM 2 ht (by omega)
    simp only [Int.cast_ofNat_Int] at e1 e2 e3 e4
    rw [e1, e2, e3, e4]
    simp only [s2_h, schedR, this, cond_false, Int.toNat_natCast], by show 16 ≤ t + 1 ∧ t + 1 ≤ 64; omega, by show 64 - (t + 1) < 64 - t; omega⟩
theorem sched_ok : sched_c.ok Tryz.prog 150 := Con.prove (c := sched_c) EF Z0 K0 (H := fun a f r => match f, r with | 150, 3 => some (.inv (s1_h a.1.l)) | 150, 7 => some (.inv (s2_h a.1.l)) | _, _ => none) (n := 2) fun (a : HL D sched_c.ts) (_ : sched_c.holds a) =>
  And.intro (⟨(0 : Nat), rfl, rfl, rfl, Nat.zero_le _⟩ : Ent (s1_h a.1.l) [iv 0] [] [.box 217 [.vec .u32 64 (List.replicate 64 0)]])
  fun (t : Nat) (h1 : t ≤ 16) =>
  bq (decide ((t : Int) < 16)) (fun h2 => have ht : t < 16 := by have := of_decide_eq_true h2; omega
    brN (c := decide ((0 : Int) ≤ A4 t) && decide (A4 t < ((64 : Nat) : Int))) (by unfold A4; rw [e4 (by omega)]; simp; omega) (
    brN (c := decide ((0 : Int) ≤ B4 t 1) && decide (B4 t 1 < ((64 : Nat) : Int))) (at4 1 ht (by omega)) (
    brN (c := decide ((0 : Int) ≤ B4 t 2) && decide (B4 t 2 < ((64 : Nat) : Int))) (at4 2 ht (by omega)) (
    brN (c := decide ((0 : Int) ≤ B4 t 3) && decide (B4 t 3 < ((64 : Nat) : Int))) (at4 3 ht (by omega)) (
    brN (c := decide ((0 : Int) ≤ (t : Int)) && decide ((t : Int) < ((64 : Nat) : Int))) (at64 (by omega)) (
    s1R a.1.l ht))))))
  (fun h2 => have ht : t = 16 := by have := of_decide_eq_false h2; omega
    And.intro (⟨(16 : Nat), rfl, rfl, by rw [ht]; rfl, ⟨Nat.le_refl _, by omega⟩⟩ : Ent (s2_h a.1.l) [iv 16] [] [.box 217 [.vec .u32 64 (schedR a.1.l t)]])
    fun (i : Nat) (h3 : 16 ≤ i ∧ i ≤ 64) =>
    bq (decide ((i : Int) < 64)) (fun h4 => have hi : i < 64 := by have := of_decide_eq_true h4; omega
      brN (c := decide ((0 : Int) ≤ IntKind.wrap .i64 ((i : Int) - 15)) && decide (IntKind.wrap .i64 ((i : Int) - 15) < ((64 : Nat) : Int))) (atM 15 hi (by omega)) (
      brN (c := decide ((0 : Int) ≤ IntKind.wrap .i64 ((i : Int) - 2)) && decide (IntKind.wrap .i64 ((i : Int) - 2) < ((64 : Nat) : Int))) (atM 2 hi (by omega)) (
      brN (c := decide ((0 : Int) ≤ IntKind.wrap .i64 ((i : Int) - 16)) && decide (IntKind.wrap .i64 ((i : Int) - 16) < ((64 : Nat) : Int))) (atM 16 hi (by omega)) (
      brN (c := decide ((0 : Int) ≤ IntKind.wrap .i64 ((i : Int) - 7)) && decide (IntKind.wrap .i64 ((i : Int) - 7) < ((64 : Nat) : Int))) (atM 7 hi (by omega)) (
      brN (c := decide ((0 : Int) ≤ (i : Int)) && decide ((i : Int) < ((64 : Nat) : Int))) (at64 hi) (
      s2R a.1.l hi h3.1))))))
    (fun h4 => have hi : i = 64 := by have := of_decide_eq_false h4; omega
      (by rw [hi]; rfl : some ((⟨schedR a.1.l i⟩ : AV .u32 64), ()) = some (sched_c.ret a))))
end Go.Proofs.YtpbcabanpppfoaaGreat
