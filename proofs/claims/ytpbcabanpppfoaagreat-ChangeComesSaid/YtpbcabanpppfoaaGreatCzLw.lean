/- Change: digests of bytes: the reference's are the program's. No condition. -/
import Derived.Test.YtpbcabanpppfoaaGreatCzQ
import Derived.Test.YtpbcabanpppfoaaGreatVzSort
set_option linter.all false
namespace Go.Proofs.YtpbcabanpppfoaaGreat
open Go Go.Gx Go.Vz
set_option maxRecDepth 100000
/-! ### 113 Round -/
def stR (s k w : List Int) : Nat → List Int
  | 0 => s
  | t + 1 => let x := stR s k w t
    [ad (bigS rorR x k w t) (smallS rorR x), gi x 0, gi x 1, gi x 2, ad (gi x 3) (bigS rorR x k w t), gi x 4, gi x 5, gi x 6]
def takeR (s b : List Int) : List Int := addS (stR s KL (schedR b 64) 64) s 8
def rd_h (s w : List Int) : LH D := ⟨Nat, [8], fun t => [.i .i64 (t : Nat)], fun t => t ≤ 64, fun t => 64 - t, [], fun _ => [], [7], fun t => [.box 173 [.vec .u32 8 (stR s KL w t)]]⟩
def round_c : Con D := { ts := [.st 13, .st 14], rt := [.st 13], ret := fun a => (⟨takeR a.1.l a.2.1.l⟩, ()) }
abbrev Γq : Nat → Option (Con D) := addC (addC noC 149 roots2_c) 150 sched_c
theorem Kq : Kept EF Tryz.prog Γq noO := (K0.c roots2_ok).c sched_ok
theorem round_ok : round_c.ok Tryz.prog 113 := Con.prove (c := round_c) EF Z0 Kq (H := fun a f r => match f, r with | 113, 4 => some (.inv (rd_h a.1.l (schedR a.2.1.l 64))) | 113, _ => some (.unr 9) | _, _ => none) (n := 2) fun (a : HL D round_c.ts) (_ : round_c.holds a) =>
  have tl := And.intro (⟨(0 : Nat), rfl, rfl, rfl, Nat.zero_le _⟩ : Ent (rd_h a.1.l (schedR a.2.1.l 64)) [iv 0] [] [.box 173 [.vec .u32 8 a.1.l]])
    fun (t : Nat) (h1 : t ≤ 64) =>
    bq (decide ((t : Int) < 64)) (fun h2 => have ht : t < 64 := by have := of_decide_eq_true h2; omega
      brN (c := decide ((0 : Int) ≤ (t : Int)) && decide ((t : Int) < ((64 : Nat) : Int))) (at64 ht) (
      brN (c := decide ((0 : Int) ≤ (t : Int)) && decide ((t : Int) < ((64 : Nat) : Int))) (at64 ht) (
      (⟨(t + 1 : Nat), by rw [wrap1 ht (by decide)]; rfl, rfl, rfl, by show t + 1 ≤ 64; omega, by show 64 - (t + 1) < 64 - t; omega⟩ : Rnd (rd_h a.1.l (schedR a.2.1.l 64)) t [iv (IntKind.wrap .i64 ((t : Int) + 1))] [] [.box 173 [.vec .u32 8 (stR a.1.l KL (schedR a.2.1.l 64) (t + 1))]]))))
    (fun h2 => have ht : t = 64 := by have := of_decide_eq_false h2; omega
      (by rw [ht]; rfl : some ((⟨addS (stR a.1.l KL (schedR a.2.1.l 64) t) a.1.l 8⟩ : AV .u32 8), ()) = some (round_c.ret a)))
  And.intro (And.intro (both tl) (both (both tl))) (both (And.intro (both tl) tl))
/-! ### 78 Of -/
def fillB (p : List UInt8) (at_ : Nat) : Nat → List Int
  | 0 => List.replicate 64 0
  | i + 1 => (fillB p at_ i).set i ((p.getD (at_ + i) 0).toNat : Nat)
def slP (s : St D) (t : Nat) : Nat := match s.sl.get t with | some (.ptr id _) => id | _ => 0
def ofk_h (p : List UInt8) : LH D := ⟨Nat, [5], fun k => [.i .i64 ((64 * k : Nat) : Int)], fun k => 64 * k ≤ p.length, fun k => p.length - 64 * k, [], fun _ => [], [1], fun k => [.box 173 [.vec .u32 8 (foldB takeR k SL (u8s p))]]⟩
def ofi_h (p : List UInt8) (at_ w : Nat) : LH D := ⟨Nat, [7], fun i => [.i .i64 (i : Nat)], fun i => i ≤ 64, fun i => 64 - i, [], fun _ => [], [w], fun i => [.box 175 [.vec .u8 64 (fillB p at_ i)]]⟩
def shaR (b : List UInt8) : Dig := dgO (foldB takeR ((padU b).length / 64) SL (u8s (padU b))) 32
def ofR_c : Con D := { ts := [.sl .u8], rt := [.dig], pre := some (fun a => a.1.length ≤ 1000000), ret := fun a => (shaR a.1, ()) }
abbrev Γof : Nat → Option (Con D) := addC (addC (addC noC 111 pad_c) 112 first_c) 113 round_c
theorem Kof : Kept EF Tryz.prog Γof noO := ((K0.c pad_ok).c first_ok).c round_ok
theorem padU_len (b : List UInt8) : (padU b).length = 64 * ((b.length + 8) / 64 + 1) := by
  unfold padU; rw [padE_len, pad0_len]; unfold zP; omega
theorem fillB_len (p : List UInt8) (a : Nat) : ∀ i, (fillB p a i).length = 64
  | 0 => by simp [fillB]
  | i + 1 => by simp [fillB, fillB_len p a i]
theorem fillB_get (p : List UInt8) (a : Nat) : ∀ (i j : Nat), j < i → i ≤ 64 → (fillB p a i)[j]? = some ((p.getD (a + j) 0).toNat : Int)
  | 0, j, h, _ => by omega
  | i + 1, j, h, hi => by
    unfold fillB
    rw [List.getElem?_set]
    by_cases e : i = j
    · subst e
      rw [if_pos rfl, if_pos (by rw [fillB_len]; omega)]
    · rw [if_neg e]; exact fillB_get p a i j (by omega) (by omega)
theorem fillB_eq {p : List UInt8} {a : Nat} (h : a + 64 ≤ p.length) : fillB p a 64 = ((u8s p).drop a).take 64 := by
  apply List.ext_getElem?
  intro j
  by_cases hj : j < 64
  · rw [fillB_get p a 64 j hj (by omega), List.getElem?_take, if_pos hj, List.getElem?_drop, List.getElem?_map, List.getElem?_eq_getElem (by omega), List.getD_eq_getElem?_getD, List.getElem?_eq_getElem (by omega)]
    rfl
  · rw [List.getElem?_eq_none (by rw [fillB_len]; omega), List.getElem?_eq_none (by simp; omega)]
theorem foldB_succ (tk : List Int → List Int → List Int) (k : Nat) (st xs : List Int) : foldB tk (k + 1) st xs = tk (foldB tk k st xs) ((xs.drop (64 * k)).take 64) := foldB_add tk k 1 st xs
theorem idx_eq {p : List UInt8} {k i : Nat} (hp : p.length ≤ 2000000) (hk : 64 * k < p.length) (hi : i < 64) : IntKind.wrap .i64 (((64 * k : Nat) : Int) + (i : Int)) = ((64 * k + i : Nat) : Int) := by
  rw [← Int.natCast_add]; exact wrap_i64_nat (by omega)
theorem ofR_ok : ofR_c.ok Tryz.prog 78 := Con.prove (c := ofR_c) EF Z0 Kof (H := fun a f r => match f, r with | 78, 4 => some (.inv (ofk_h (padU a.1))) | 78, 8 => some (.dep fun st => .inv (ofi_h (padU a.1) (slI st 5).toNat (slP st 6))) | _, _ => some (.unr 33)) (n := 2) fun (a : HL D ofR_c.ts) (hp : ofR_c.holds a) =>
  have hp : a.1.length ≤ 1000000 := hp
  And.intro (Pre.mk hp : Pre (a.1.length ≤ 1000000)) (
  And.intro (⟨(0 : Nat), rfl, rfl, rfl, Nat.zero_le _⟩ : Ent (ofk_h (padU a.1)) [iv 0] [] [.box 173 [.vec .u32 8 SL]])
  fun (k : Nat) (h1 : 64 * k ≤ (padU a.1).length) =>
  brL fun hl : (padU a.1).length ≤ maxL =>
  bq (decide (((64 * k : Nat) : Int) < ((padU a.1).length : Int))) (fun h2 => have hk : 64 * k < (padU a.1).length := by have := of_decide_eq_true h2; omega
    have hlen : (padU a.1).length ≤ 2000000 := by rw [padU_len]; omega
    have h64 : 64 * k + 64 ≤ (padU a.1).length := by rw [padU_len] at *; omega
    And.intro (⟨(0 : Nat), rfl, rfl, rfl, Nat.zero_le _⟩ : Ent (ofi_h (padU a.1) (64 * k) 4) [iv 0] [] [.box 175 [.vec .u8 64 (List.replicate 64 0)]])
    fun (i : Nat) (h3 : i ≤ 64) =>
    bq (decide ((i : Int) < 64)) (fun h4 => have hi : i < 64 := by have := of_decide_eq_true h4; omega
      brN (c := decide ((0 : Int) ≤ IntKind.wrap .i64 (((64 * k : Nat) : Int) + (i : Int))) && decide (IntKind.wrap .i64 (((64 * k : Nat) : Int) + (i : Int)) < ((padU a.1).length : Int))) (by rw [idx_eq hlen hk hi]; simp; omega) (
      brN (c := decide ((0 : Int) ≤ (i : Int)) && decide ((i : Int) < ((64 : Nat) : Int))) (at64 hi) (
      (⟨(i + 1 : Nat), by rw [wrap1 hi (by decide)]; rfl, rfl, by rw [idx_eq hlen hk hi]; rfl, by show i + 1 ≤ 64; omega, by show 64 - (i + 1) < 64 - i; omega⟩ : Rnd (ofi_h (padU a.1) (64 * k) 4) i [iv (IntKind.wrap .i64 ((i : Int) + 1))] [] [.box 175 [.vec .u8 64 ((fillB (padU a.1) (64 * k) i).set i (((padU a.1).getD (Int.toNat (IntKind.wrap .i64 (((64 * k : Nat) : Int) + (i : Int)))) 0).toNat : Nat))]]))))
    (fun h4 => have hi : i = 64 := by have := of_decide_eq_false h4; omega
      (⟨(k + 1 : Nat), by rw [show IntKind.wrap .i64 (((64 * k : Nat) : Int) + 64) = ((64 * (k + 1) : Nat) : Int) from (by rw [show (((64 * k : Nat) : Int) + 64) = ((64 * (k + 1) : Nat) : Int) by omega]; exact wrap_i64_nat (by omega))]; rfl, rfl, by rw [hi, fillB_eq h64]; exact congrArg (fun l => [HB.box (E := D) 173 [.vec .u32 8 l]]) (foldB_succ takeR k SL (u8s (padU a.1))).symm, by show 64 * (k + 1) ≤ _; omega, by show (padU a.1).length - 64 * (k + 1) < (padU a.1).length - 64 * k; omega⟩ :
        Rnd (ofk_h (padU a.1)) k [iv (IntKind.wrap .i64 (((64 * k : Nat) : Int) + 64))] [] [.box 173 [.vec .u32 8 (takeR (foldB takeR k SL (u8s (padU a.1))) (fillB (padU a.1) (64 * k) i))]])))
  (fun h2 => have hk : k = (padU a.1).length / 64 := by have := of_decide_eq_false h2; omega
    (by rw [hk]; rfl : some (dgO (foldB takeR k SL (u8s (padU a.1))) 32, ()) = some (ofR_c.ret a))))
end Go.Proofs.YtpbcabanpppfoaaGreat

namespace Go.Proofs.YtpbcabanpppfoaaGreat
open Go Go.Gx Go.Vz
set_option maxRecDepth 100000
theorem orK_comm (k : IntKind) (a b : Int) : bitK .or k a b = bitK .or k b a := by
  unfold bitK; simp only [BitVec.or_comm]
theorem ror_eq : rorR = rorP := by
  funext x n; unfold rorR rorP; exact orK_comm _ _ _
theorem wr32 (x : Int) : IntKind.wrap .u32 x = x % 4294967296 := by
  simp only [IntKind.wrap, IntKind.bits, IntKind.signed]; simp
abbrev f8 (acc c : Int) : Int := bitK .or .u32 (shlK .u32 acc 8) (IntKind.wrap .u32 c)
theorem or8 {x c : Nat} (hx : x < 16777216) (hc : c < 256) : f8 (x : Int) (c : Int) = ((256 * x + c : Nat) : Int) := by
  have e1 : shlK .u32 (x : Int) 8 = ((256 * x : Nat) : Int) := by
    show IntKind.wrap .u32 ((x : Int) * 2 ^ 8) = _
    rw [wr32]; omega
  have e2 : IntKind.wrap .u32 (c : Int) = (c : Int) := by rw [wr32]; omega
  unfold f8
  rw [e1, e2]
  show IntKind.wrap .u32 (((BitVec.ofInt 32 ((256 * x : Nat) : Int) ||| BitVec.ofInt 32 (c : Int)).toNat : Nat) : Int) = _
  rw [BitVec.toNat_or, BitVec.ofInt_natCast, BitVec.ofInt_natCast, BitVec.toNat_ofNat, BitVec.toNat_ofNat, Nat.mod_eq_of_lt (by omega), Nat.mod_eq_of_lt (by omega)]
  have : 2 ^ 8 * x + c = 2 ^ 8 * x ||| c := Nat.two_pow_add_eq_or_of_lt (by omega) x
  rw [show 256 * x = 2 ^ 8 * x by omega, ← this, wr32]; omega
theorem gi_set {w : List Int} {t : Nat} {x : Int} (h : t < w.length) : gi (w.set t x) t = x := by
  unfold gi; rw [List.getD_eq_getElem?_getD, List.getElem?_set_self h]; rfl
theorem gi_set_ne {w : List Int} {t j : Nat} {x : Int} (h : t ≠ j) : gi (w.set t x) j = gi w j := by
  unfold gi; rw [List.getD_eq_getElem?_getD, List.getElem?_set_ne h, List.getD_eq_getElem?_getD]
theorem wj4 (b w : List Int) {t : Nat} (h : t < w.length) : wj b w t 4 = w.set t (f8 (f8 (f8 (f8 (gi w t) (gi b (4 * t + 0))) (gi b (4 * t + 1))) (gi b (4 * t + 2))) (gi b (4 * t + 3))) := by
  simp only [wj, List.set_set]
  rw [gi_set h, gi_set h, gi_set h]
def isB (b : List Int) : Prop := ∀ i, ∃ c : Nat, c < 256 ∧ gi b i = (c : Int)
theorem wq_eq {b : List Int} (hb : isB b) (i j k l : Nat) : f8 (f8 (f8 (f8 0 (gi b i)) (gi b j)) (gi b k)) (gi b l) = wq b i j k l := by
  obtain ⟨p, hp, e1⟩ := hb i
  obtain ⟨q, hq, e2⟩ := hb j
  obtain ⟨r, hr, e3⟩ := hb k
  obtain ⟨s, hs, e4⟩ := hb l
  unfold wq ml ad
  rw [e1, e2, e3, e4]
  have z : f8 (0 : Int) (p : Int) = ((256 * 0 + p : Nat) : Int) := or8 (x := 0) (by omega) hp
  rw [z, or8 (by omega) hq, or8 (by omega) hr, or8 (by omega) hs]
  simp only [wr32]; omega
theorem schedR_len (b : List Int) : ∀ t, (schedR b t).length = 64
  | 0 => by simp [schedR]
  | t + 1 => by
    unfold schedR
    cases Nat.blt t 16 <;> simp [schedR_len b t]
theorem schedR_zero (b : List Int) : ∀ (t j : Nat), t ≤ j → j < 64 → gi (schedR b t) j = 0
  | 0, j, _, h => by unfold schedR gi; rw [List.getD_eq_getElem?_getD, List.getElem?_replicate]; simp [h]
  | t + 1, j, h1, h2 => by
    unfold schedR
    cases Nat.blt t 16 <;> simp only [cond_true, cond_false] <;> rw [gi_set_ne (by omega)] <;> exact schedR_zero b t j (by omega) h2
theorem sched_eq {b : List Int} (hb : isB b) : ∀ t, t ≤ 64 → sched b t = schedR b t
  | 0, _ => rfl
  | t + 1, h => by
    unfold sched schedR
    rw [sched_eq hb t (by omega)]
    cases Nat.blt t 16 with
    | true =>
      simp only [cond_true]
      rw [wj4 _ _ (by rw [schedR_len]; omega), schedR_zero b t t (Nat.le_refl _) (by omega), wq_eq hb]; rfl
    | false => simp only [cond_false]; rw [ror_eq]
theorem st_succ (s k w : List Int) : ∀ t, stR s k w (t + 1) = stp rorR s k w (t + 1)
  | 0 => rfl
  | t + 1 => by
    unfold stR stp
    rw [st_succ s k w t]
theorem ad_comm (a b : Int) : ad a b = ad b a := by unfold ad; rw [Int.add_comm]
theorem addS_comm {s x : List Int} (hs : s.length = 8) (hx : x.length = 8) : addS x s 8 = addS s x 8 := by
  match s, hs, x, hx with
  | [a0, a1, a2, a3, a4, a5, a6, a7], _, [b0, b1, b2, b3, b4, b5, b6, b7], _ =>
    show [ad b0 a0, ad b1 a1, ad b2 a2, ad b3 a3, ad b4 a4, ad b5 a5, ad b6 a6, ad b7 a7] = [ad a0 b0, ad a1 b1, ad a2 b2, ad a3 b3, ad a4 b4, ad a5 b5, ad a6 b6, ad a7 b7]
    simp only [ad_comm]
theorem addS_len (s x : List Int) : ∀ i, (addS s x i).length = s.length
  | 0 => rfl
  | i + 1 => by unfold addS; rw [List.length_set, addS_len s x i]
theorem tkK_len (s b : List Int) : (tkK s b).length = s.length := addS_len _ _ _
theorem take_eq {s b : List Int} (hs : s.length = 8) (hb : isB b) : takeR s b = tkK s b := by
  unfold takeR tkK takeF
  rw [← sched_eq hb 64 (Nat.le_refl _), st_succ s KL (sched b 64) 63, ror_eq]
  exact addS_comm hs rfl
theorem foldB_eq : ∀ (k : Nat) (s xs : List Int), s.length = 8 → (∀ x ∈ xs, ∃ c : Nat, c < 256 ∧ x = (c : Int)) → foldB takeR k s xs = foldB tkK k s xs
  | 0, _, _, _, _ => rfl
  | k + 1, s, xs, hs, hx => by
    have hb : isB (xs.take 64) := fun i => by
      unfold gi
      rw [List.getD_eq_getElem?_getD]
      cases hq : (xs.take 64)[i]? with
      | none => exact ⟨0, by omega, rfl⟩
      | some y => exact hx y (List.mem_of_mem_take (List.mem_of_getElem? hq))
    show foldB takeR k (takeR s (xs.take 64)) (xs.drop 64) = foldB tkK k (tkK s (xs.take 64)) (xs.drop 64)
    rw [take_eq hs hb]
    exact foldB_eq k _ _ (by rw [tkK_len, hs]) fun x h => hx x (List.mem_of_mem_drop h)
theorem allI_eq {b : List UInt8} (h : b.length ≤ 1000000) : allI b = (b.length : Int) := by
  unfold allI; rw [Int.zero_add]; exact wrap_i64_nat (by omega)
theorem padU_eq {b : List UInt8} (h : b.length ≤ 1000000) : u8s (padU b) = padI (lbI (allI b)) b := by
  rw [allI_eq h]
  unfold padU padI lbs
  simp only [padE, pad0, zP, u8s, List.map_append, List.map_cons, List.map_nil, List.map_replicate, List.append_assoc]
  rfl
theorem shaR_eq {b : List UInt8} (h : b.length ≤ 1000000) : shaR b = shaD b := by
  unfold shaR shaD
  have hs := sum_eq tkK (lbI (allI b)) b SL (f := b.length + 1) (bl := List.replicate 64 0) (Nat.lt_succ_self _) (by simp)
  unfold wrW
  rw [hs, foldB_eq _ _ _ rfl, padU_eq h]
  · congr 2
    have := congrArg List.length (padU_eq h)
    rw [List.length_map] at this
    rw [this]
  · intro x hx
    obtain ⟨y, _, rfl⟩ := List.mem_map.1 hx
    exact ⟨y.toNat, y.toNat_lt, rfl⟩
end Go.Proofs.YtpbcabanpppfoaaGreat

namespace Go.Proofs.YtpbcabanpppfoaaGreat
open Go Go.Gx Go.Vz
set_option maxRecDepth 100000
/-! ### 35 acks -/
abbrev Γak : Nat → Option (Con D) := addC (addC noC 49 chg_c) 78 ofR_c
theorem Kak : Kept EF Tryz.prog Γak noO := (K0.c rch_ok).c ofR_ok
noncomputable def Zak : ZF Tryz.prog D := (Z0.side Kak).skip
abbrev ackW (from_ : Int) (c : Change) : Note := ackNt from_ c.view c.node (shaD (chBytes c))
def aks_c : Con D := { ts := [.int, .st 3], rt := [.st 7], pre := some (fun a => isW a.2.1), ret := fun a => (ackW a.1 a.2.1, ()) }
theorem aks_ok : aks_c.ok Tryz.prog 35 := Con.proveS (c := aks_c) EF Zak Kak (fun i : Int × (Int × Int × UInt8) => (i.1, says i.2.1 i.2.2.1 i.2.2.2, ())) (fun i => chOk i.2) (fun a ⟨j, h, hq⟩ => ⟨(a.1, j), by obtain ⟨x, y, u⟩ := a; have h : y = _ := h; rw [h], hq⟩) (H := fun _ _ _ => some (.unr 40)) (n := 6) fun (i : Int × (Int × Int × UInt8)) (hq : chOk i.2) =>
  have hW : isW (says i.2.1 i.2.2.1 i.2.2.2) := ⟨i.2, rfl, hq⟩
  have hl := isW_len hW
  And.intro (Pre.mk ⟨i.2, rfl, hq⟩ : Pre (∃ j : Int × Int × UInt8, (says i.2.1 i.2.2.1 i.2.2.2, ()) = (says j.1 j.2.1 j.2.2, ()) ∧ chOk j)) (
  brL fun _ : (chBytes (says i.2.1 i.2.2.1 i.2.2.2)).length ≤ maxL =>
  bq (decide ((65536 : Int) < ((chBytes (says i.2.1 i.2.2.1 i.2.2.2)).length : Int))) (fun h => (by have := of_decide_eq_true h; omega : some (ackNt i.1 i.2.2.1 i.2.1 Dig.zero, ()) = some (aks_c.ret (i.1, says i.2.1 i.2.2.1 i.2.2.2, ())))) (fun _ =>
  And.intro (Pre.mk (by omega) : Pre ((chBytes (says i.2.1 i.2.2.1 i.2.2.2)).length ≤ 1000000)) (
  brN (c := Nat.ble ((0 + (chBytes (says i.2.1 i.2.2.1 i.2.2.2)).length) * mulB Tryz.prog 5) maxL) (by rw [mb5]; exact Nat.ble_eq_true_of_le (by unfold maxL; omega)) (
  (by rw [shaR_eq (by omega)]; rfl : some (ackNt i.1 i.2.2.1 i.2.1 (shaR (chBytes (says i.2.1 i.2.2.1 i.2.2.2))), ()) = some (aks_c.ret (i.1, says i.2.1 i.2.2.1 i.2.2.2, ())))))))
end Go.Proofs.YtpbcabanpppfoaaGreat

namespace Go.Proofs.YtpbcabanpppfoaaGreat
open Go Go.Gx Go.Vz
set_option maxRecDepth 100000
/-! ### 66 -/
def sn_c : Con D := { ts := [.sl (.st 7), .sl (.st 7)], rt := [.bool], ret := fun a => (eqB (α := Note) a.1 a.2.1, ()) }
theorem sn_ok : sn_c.ok Tryz.prog 66 := Con.prove (c := sn_c) EF Zh Kh (H := fun a f r => match f, r with | 66, 4 => some (.inv (eq_h (α := Note) a.1 a.2.1 5)) | _, _ => none) (n := 2) fun (a : HL D sn_c.ts) (_ : sn_c.holds a) =>
  brL fun h1 : a.1.length ≤ maxL => brL fun h2 : a.2.1.length ≤ maxL =>
  bq (((a.1.length : Nat) : Int) != ((a.2.1.length : Nat) : Int)) (fun h3 => (by rw [show sn_c.ret a = (eqB (α := Note) a.1 a.2.1, ()) from rfl, eqN (α := Note) h3]; rfl : some (false, ()) = some (sn_c.ret a)))
  (fun h3 => have hl := eqLn (α := Note) (xs := a.1) (ys := a.2.1) h3
  
  And.intro (⟨(0 : Nat), rfl, rfl, rfl, ⟨Nat.zero_le _, rfl⟩⟩ : Ent (eq_h (α := Note) a.1 a.2.1 5) [iv 0] [] [])
  fun (i : Nat) (hI : i ≤ a.1.length ∧ a.1.take i = a.2.1.take i) =>
  brL fun _ : a.1.length ≤ maxL =>
  bq (decide ((i : Int) < (a.1.length : Int))) (fun h6 => have hi : i < a.1.length := by have := of_decide_eq_true h6; omega
    brN (c := decide ((0 : Int) ≤ (i : Int)) && decide ((i : Int) < (a.1.length : Int))) (by simp; omega) (
    brN (c := decide ((0 : Int) ≤ (i : Int)) && decide ((i : Int) < (a.2.1.length : Int))) (by simp; omega) (
    bq (!dq (α := Note) (List.getD a.1 (Int.toNat (i : Int)) (Ty.dflt D (.st 7) : Note)) (List.getD a.2.1 (Int.toNat (i : Int)) (Ty.dflt D (.st 7) : Note))) (fun h7 =>
      (by rw [show sn_c.ret a = (eqB (α := Note) a.1 a.2.1, ()) from rfl, eqFl (α := Note) (i := i) (d := (Ty.dflt D (.st 7) : Note)) (nde h7)]; rfl : some (false, ()) = some (sn_c.ret a)))
    (fun h7 => eqRnd (α := Note) (xs := a.1) (ys := a.2.1) (k := 5) (d := (Ty.dflt D (.st 7) : Note)) hI hi h1 hl (nde0 h7)))))
  (fun h6 => (by rw [show sn_c.ret a = (eqB (α := Note) a.1 a.2.1, ()) from rfl, eqTr (α := Note) (i := i) (by have := of_decide_eq_false h6; omega) hl hI]; rfl : some (true, ()) = some (sn_c.ret a))))
/-! ### 48 -/
def sc_c : Con D := { ts := [.sl (.st 3), .sl (.st 3)], rt := [.bool], ret := fun a => (eqB (α := Change) a.1 a.2.1, ()) }
theorem sc_ok : sc_c.ok Tryz.prog 48 := Con.prove (c := sc_c) EF Zh Kh (H := fun a f r => match f, r with | 48, 4 => some (.inv (eq_h (α := Change) a.1 a.2.1 5)) | _, _ => none) (n := 2) fun (a : HL D sc_c.ts) (_ : sc_c.holds a) =>
  brL fun h1 : a.1.length ≤ maxL => brL fun h2 : a.2.1.length ≤ maxL =>
  bq (((a.1.length : Nat) : Int) != ((a.2.1.length : Nat) : Int)) (fun h3 => (by rw [show sc_c.ret a = (eqB (α := Change) a.1 a.2.1, ()) from rfl, eqN (α := Change) h3]; rfl : some (false, ()) = some (sc_c.ret a)))
  (fun h3 => have hl := eqLn (α := Change) (xs := a.1) (ys := a.2.1) h3
  
  And.intro (⟨(0 : Nat), rfl, rfl, rfl, ⟨Nat.zero_le _, rfl⟩⟩ : Ent (eq_h (α := Change) a.1 a.2.1 5) [iv 0] [] [])
  fun (i : Nat) (hI : i ≤ a.1.length ∧ a.1.take i = a.2.1.take i) =>
  brL fun _ : a.1.length ≤ maxL =>
  bq (decide ((i : Int) < (a.1.length : Int))) (fun h6 => have hi : i < a.1.length := by have := of_decide_eq_true h6; omega
    brN (c := decide ((0 : Int) ≤ (i : Int)) && decide ((i : Int) < (a.1.length : Int))) (by simp; omega) (
    brN (c := decide ((0 : Int) ≤ (i : Int)) && decide ((i : Int) < (a.2.1.length : Int))) (by simp; omega) (
    bq (!dq (α := Change) (List.getD a.1 (Int.toNat (i : Int)) (Ty.dflt D (.st 3) : Change)) (List.getD a.2.1 (Int.toNat (i : Int)) (Ty.dflt D (.st 3) : Change))) (fun h7 =>
      (by rw [show sc_c.ret a = (eqB (α := Change) a.1 a.2.1, ()) from rfl, eqFl (α := Change) (i := i) (d := (Ty.dflt D (.st 3) : Change)) (nde h7)]; rfl : some (false, ()) = some (sc_c.ret a)))
    (fun h7 => eqRnd (α := Change) (xs := a.1) (ys := a.2.1) (k := 5) (d := (Ty.dflt D (.st 3) : Change)) hI hi h1 hl (nde0 h7)))))
  (fun h6 => (by rw [show sc_c.ret a = (eqB (α := Change) a.1 a.2.1, ()) from rfl, eqTr (α := Change) (i := i) (by have := of_decide_eq_false h6; omega) hl hI]; rfl : some (true, ()) = some (sc_c.ret a))))
end Go.Proofs.YtpbcabanpppfoaaGreat

namespace Go.Proofs.YtpbcabanpppfoaaGreat
open Go Go.Gx Go.Vz
set_option maxRecDepth 100000
abbrev ΓL : Nat → Option (Con D) := addC (addC (addC (addC (addC (addC (addC (addC Γk 34 crw_c) 66 sn_c) 48 sc_c) 23 ch_c) 35 aks_c) 13 tells_c) 14 says_c) 9 bring_c
abbrev ΔL : Nat → Option (OCon D) := addO (addO (addO (addO (addO Δc 10 fr_c) 12 tk_c) 20 vch_c) 26 lv_c) 11 bn_c
abbrev ΛL : Nat → Option (OCon D) := addO (addO (addO (addO (fun _ => none) 15 jn_c) 22 rdy_c) 24 kof_c) 25 bhd_c
theorem KL1 : Kept EF Tryz.prog ΓL ΔL := (((((((((((((Kk.c crw_ok).c sn_ok).c sc_ok).c ch23_ok).c aks_ok).c tells_ok).c says_ok).c bring_ok).o fr_ok).o tk_ok).o vch_ok).o lv_ok).o bn_ok)
theorem Ll : Looks EF Tryz.prog ΛL := (((Looks.nil.o jn_ok).o rdy_ok).o kof_ok).o bhd_ok
noncomputable def ZL : ZF Tryz.prog D := (Z0.side KL1).skip
/-! ### 47 takes -/
def tksP (k : KD) (n : Note) (want : List Note) : (Bool × Unit) × KD := ((bif (takeP k n).1.2.1 == 0 then eqB (α := Note) (takeP k n).1.1 want else false, ()), (takeP k n).2)
def tks_c : OCon D := { ash := [.nm 0, .dat (.st 7), .dat (.sl (.st 7))], es := KS, rsh := [.dat .bool], pes := KS, pre := some (fun a _ => isNt a.1), post := fun a k => tksP k a.1 a.2.1 }
theorem tks_ok : tks_c.ok EF Tryz.prog 47 := OCon.proveH (c := tks_c) EF ZL (H := fun _ _ _ _ => none) (call := fun _ _ => callsL EF ZL ΛL ΓL ΔL (fun _ _ => none) 3) (fun _ _ => callsL_ok Ll KL1 3) fun (a : CL D tks_c.ash) (k : KD) (hp : tks_c.holds a k) =>
  And.intro (Pre.mk hp : Pre (isNt a.1)) (
  (rfl : some ((bif (takeP k a.1).1.2.1 == 0 then eqB (α := Note) (takeP k a.1).1.1 a.2.1 else false, ()), (takeP k a.1).2) = some (tks_c.post a k)))
abbrev ΔM : Nat → Option (OCon D) := addO ΔL 47 tks_c
theorem KM1 : Kept EF Tryz.prog ΓL ΔM := KL1.o tks_ok
end Go.Proofs.YtpbcabanpppfoaaGreat

namespace Go.Proofs.YtpbcabanpppfoaaGreat
open Go Go.Gx Go.Vz
set_option maxRecDepth 100000
/-- Of a council of the statements: what counts. -/
structure Fct (f me : Int) (ch : List (Int × Said)) (ak : List (Pair × Ack)) (k : KD) : Prop where
  hd : k.1 = (crewS f, me, 1, 1, ())
  ch : kCh k = ch
  ak : kAk k = ak
theorem hasB_ok {f n : Int} (hf : f = 1 ∨ f = 2) (h1 : 1 ≤ n) (h2 : n ≤ 3 * f + 1) : hasB (crewS f) n = true := by
  have := okF_new (f := f) (self := n) ⟨hf, h1, h2⟩
  cases h : hasB (crewS f) n with
  | true => rfl
  | false =>
    rw [h] at this
    cases check (crewS f) != 0 <;> simp at this
section
variable {f me : Int} {ch : List (Int × Said)} {ak : List (Pair × Ack)} {k : KD}
theorem Fct.cr (h : Fct f me ch ak k) : kCr k = crewS f := by show k.1.1 = _; rw [h.hd]
theorem Fct.sf (h : Fct f me ch ak k) : kSf k = me := by show k.1.2.1 = _; rw [h.hd]
theorem Fct.gr (h : Fct f me ch ak k) : kGr k = 1 := by show k.1.2.2.1 = _; rw [h.hd]
theorem Fct.ep (h : Fct f me ch ak k) : kEp k = 1 := by show k.1.2.2.2.1 = _; rw [h.hd]
theorem Fct.ink (h : Fct f me ch ak k) (b : List UInt8) : Fct f me ch ak (kInk k b) := ⟨h.hd, h.ch, h.ak⟩
/-- A note that tells a change is looked at. -/
theorem take_tell (h : Fct f me ch ak k) (hf : f = 1 ∨ f = 2) {n v : Int} {b : UInt8} (h1 : 1 ≤ n) (h2 : n ≤ 3 * f + 1) (hn : n ≠ me) : takeP k (tells (says n v b)) = takeC k (tells (says n v b)) := by
  unfold takeP
  rw [h.gr, h.ep, h.cr, h.sf]
  show (bif (bif !((7 : Int) == 8) then (7 : Int) != 7 else false) then _ else bif (1 : Int) != 1 then _ else bif (1 : Int) != 1 then _ else bif !hasB (crewS f) n then _ else bif n == me then _ else bif (7 : Int) == 8 then _ else _) = _
  rw [hasB_ok hf h1 h2, show (n == me) = false by simpa using hn]
  rfl
/-- A note that one was heard is noted. -/
theorem take_ack (h : Fct f me ch ak k) (hf : f = 1 ∨ f = 2) {x : Int} {c : Change} (h1 : 1 ≤ x) (h2 : x ≤ 3 * f + 1) (hn : x ≠ me) (h3 : 1 ≤ c.node) (h4 : c.node ≤ 3 * f + 1) : takeP k (ackW x c) = (([], (hearsP k (ackW x c)).1.1, ()), (hearsP k (ackW x c)).2) := by
  unfold takeP
  rw [h.gr, h.ep, h.cr, h.sf]
  show (bif (bif !((8 : Int) == 8) then (8 : Int) != 7 else false) then _ else bif (1 : Int) != 1 then _ else bif (1 : Int) != 1 then _ else bif !hasB (crewS f) x then _ else bif x == me then _ else bif (8 : Int) == 8 then (bif !hasB (crewS f) c.node then _ else _) else _) = _
  rw [hasB_ok hf h1 h2, hasB_ok hf h3 h4, show (x == me) = false by simpa using hn]
  rfl
/-- A new change, to a greater view. -/
theorem takeC_new (h : Fct f me ch ak k) {n v : Int} {b : UInt8} (hv : (sd ch n).change.view < v) : (takeC k (tells (says n v b))).1 = ([ackW me (says n v b)], 0, ()) ∧ Fct f me (mputT (E := D) .int (.st 8) ch n (dgS (says n v b))) ak (takeC k (tells (says n v b))).2 := by
  have e : takeC k (tells (says n v b)) = (([ackSaid k (dgS (says n v b))], 0, ()), kChs (kInk k (chBytes (says n v b))) (mputT (E := D) .int (.st 8) (kCh k) n (dgS (says n v b)))) := by
    unfold takeC
    rw [h.ch]
    show (bif decide (v < (sd ch n).change.view) then _ else bif (bif (sd ch n).change.view == v then !dq (α := Change) (sd ch n).change (says n v b) else false) then _ else bif (sd ch n).change.view == v then _ else _) = _
    rw [show decide (v < (sd ch n).change.view) = false by simp; omega, show ((sd ch n).change.view == v) = false by simp; omega]
    rfl
  rw [e]
  refine ⟨?_, ⟨h.hd, by show mputT (E := D) .int (.st 8) (kCh k) n _ = _; rw [h.ch], h.ak⟩⟩
  show ([ackSaid k (dgS (says n v b))], 0, ()) = _
  unfold ackSaid
  rw [h.sf, h.gr, h.ep]
  rfl
end
end Go.Proofs.YtpbcabanpppfoaaGreat
