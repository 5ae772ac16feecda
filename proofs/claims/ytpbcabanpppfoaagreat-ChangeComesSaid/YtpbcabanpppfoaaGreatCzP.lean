/- Change: sync.Once, not yet done, the lock free: the closure is called, done is stored, the lock is let go. No condition. -/
import Derived.Test.YtpbcabanpppfoaaGreatCzK
import Derived.Test.YtpbcabanpppfoaaGreatVzKeys
import Derived.Tactics
import Derived.Tactics2
import Derived.Defers
import Derived.Laws.Pointers
import Derived.Laws.LoneSync
import Derived.RegionTactic
import Derived.RegionCalls
import Derived.ChangeAlike
set_option linter.all false
namespace Go.Proofs.YtpbcabanpppfoaaGreat
open Go Go.Gx Go.Vz
theorem oDisable (w : World) : (callFunc 247 #[]).run Tryz.prog w = .ok (.value (.tuple #[])) w := run_call_mark0 Tryz.func247 (by kernel_rfl) (by kernel_rfl) (by kernel_rfl) .disable (by kernel_rfl) w
theorem oEnable (w : World) : (callFunc 249 #[]).run Tryz.prog w = .ok (.value (.tuple #[])) w := run_call_mark0 Tryz.func249 (by kernel_rfl) (by kernel_rfl) (by kernel_rfl) .enable (by kernel_rfl) w
theorem oAcquire (a : Addr) (w : World) : (callFunc 250 #[.pointer (some a)]).run Tryz.prog w = .ok (.value (.tuple #[])) w := run_call_marked Tryz.func250 (by kernel_rfl) (by kernel_rfl) (by kernel_rfl) .acquire (by kernel_rfl) a w
theorem oRelease (a : Addr) (w : World) : (callFunc 252 #[.pointer (some a)]).run Tryz.prog w = .ok (.value (.tuple #[])) w := run_call_marked Tryz.func252 (by kernel_rfl) (by kernel_rfl) (by kernel_rfl) .releaseMerge (by kernel_rfl) a w
theorem store_deferred (a : Addr) (x : Value) (u : FrameMode) (w : World) (hc : w.cell? a = some x) (hz : w.frozen? a = false) :
    CallsD Tryz.prog 237 #[.pointer (some a), .bool true] u w fun e u' w' => u' = u ∧ (e = .returned (.tuple #[]) ∧ w' = w.drew.setCell a (.int .u32 1)) := by
  have hc' : w.drew.cell? a = some x := by go_simp
  have hz' : w.drew.frozen? a = false := by go_simp
  have hst := run_call_store (P := Tryz.prog) Tryz.func243 (by kernel_rfl) (by kernel_rfl) (by kernel_rfl) (by kernel_rfl) (k := .u32) (y := 1) hc' hz'
  go_enter_d Tryz.func237, Tryz.ntmps237
  go_wp2
  go_region_calls
  all_goals (go_end0; exact ⟨rfl, rfl⟩)
set_option maxRecDepth 100000 in
theorem unlock_deferred (a : Addr) (u : FrameMode) (w : World) (hc : w.cell? a = some (.int .i32 1)) (hz : w.frozen? a = false) :
    CallsD Tryz.prog 236 #[.pointer (some a)] u w fun e u' w' => u' = u ∧ (e = .returned (.tuple #[]) ∧ w' = w.setCell a (.int .i32 0)) := by
  have hd := oDisable
  have he := oEnable
  have hr := oRelease
  have hadd := run_call_add (P := Tryz.prog) Tryz.func253 (by kernel_rfl) (by kernel_rfl) (by kernel_rfl) .i32 (by kernel_rfl) (y := -1) (s := 0) hc hz (by simp [go_sem]; rfl)
  have hcv := run_convert_to_unsafe (P := Tryz.prog) (src := 321) (dst := 325) Tryz.underlying321 Tryz.underlying325 (by kernel_rfl) hc
  go_enter_d Tryz.func236, Tryz.ntmps236
  go_wp2
  go_end0
  go_wp2
  go_end0
  exact ⟨rfl, rfl⟩
set_option maxRecDepth 100000 in
theorem lock_free (a : Addr) (w : World) (hc : w.cell? a = some (.int .i32 0)) (hz : w.frozen? a = false) :
    Calls Tryz.prog 235 #[.pointer (some a)] w fun e w' => e = .returned (.tuple #[]) ∧ w' = w.setCell a (.int .i32 1) := by
  have hd := oDisable
  have he := oEnable
  have ha := oAcquire
  have hcas := run_call_cas_hit (P := Tryz.prog) Tryz.func248 (by kernel_rfl) (by kernel_rfl) (by kernel_rfl) .i32 (by kernel_rfl) (y := 1) hc hz
  have hc' : (w.setCell a (.int .i32 1)).cell? a = some (.int .i32 1) := World.cell?_setCell_same w a _ hc
  have hcv := run_convert_to_unsafe (P := Tryz.prog) (src := 321) (dst := 325) Tryz.underlying321 Tryz.underlying325 (by kernel_rfl) hc'
  go_enter Tryz.func235, Tryz.ntmps235
  go_wp2
  first | go_end0 | (simp only [Exit.inBlock, Exit.then]; refine bodyPost_ret (results_none rfl _ _ _) rfl ?_) | refine bodyPost_ret (results_none rfl _ _ _) rfl ?_
  go_wp2
  go_end0
  exact ⟨rfl, rfl⟩
set_option maxRecDepth 100000 in
set_option maxHeartbeats 1600000 in
theorem slow_any (b off : Nat) (g : FuncId) (caps : Array Value) (w : World) (R : World → Prop) (hg : ∀ w, (callFunc g caps).run Tryz.prog w = .ok (.enter g caps) w)
    (h0 : w.cell? ⟨b, off, none⟩ = some (.int .u32 0)) (h1 : w.cell? ⟨b, off + 1, none⟩ = some (.int .i32 0))
    (f0 : w.frozen? ⟨b, off, none⟩ = false) (f1 : w.frozen? ⟨b, off + 1, none⟩ = false)
    (hcall : Calls Tryz.prog g caps (w.setCell ⟨b, off + 1, none⟩ (.int .i32 1)) fun e w2 => e = .returned (.tuple #[]) ∧ w2.cell? ⟨b, off, none⟩ = some (.int .u32 0) ∧ w2.cell? ⟨b, off + 1, none⟩ = some (.int .i32 1) ∧
      w2.frozen? ⟨b, off, none⟩ = false ∧ w2.frozen? ⟨b, off + 1, none⟩ = false ∧ R ((w2.drew.setCell ⟨b, off, none⟩ (.int .u32 1)).setCell ⟨b, off + 1, none⟩ (.int .i32 0))) :
    Calls Tryz.prog 224 #[.pointer (some ⟨b, off, none⟩), .func (.func g) #[] caps] w fun e w' => e = .returned (.tuple #[]) ∧ R w' := by
  have hl := run_call_load (P := Tryz.prog) Tryz.func234 (by kernel_rfl) (by kernel_rfl) (by kernel_rfl) .u32 (by kernel_rfl) (w := w.setCell ⟨b, off + 1, none⟩ (.int .i32 1)) (a := ⟨b, off, none⟩) (x := 0) ((World.cell?_setCell_other _ ⟨b, off + 1, none⟩ ⟨b, off, none⟩ _ (by simp)).trans h0)
  have hnot : ∀ (x : Bool) (w : World), (Op.unary .not (.bool x)).run Tryz.prog w = .ok (.bool (!x)) w := fun _ _ => rfl
  go_enter_defers Tryz.func224, Tryz.ntmps224
  go_wp2_with (go_at_call 235; refine (lock_free ⟨b, off + 1, none⟩ _ (by go_simp) (by go_simp)).mono ?_; rintro e w' ⟨rfl, rfl⟩)
  go_wp2
  refine hcall.mono ?_
  rintro e w2 ⟨rfl, c0, c1, z0, z1, hR⟩
  simp only []
  go_wp2
  refine leaves_cons (f := 237) (args := #[.pointer (some ⟨b, off, none⟩), .bool true]) (by simp) (by simp [go_sem]) ?_
  refine (store_deferred ⟨b, off, none⟩ (.int .u32 0) .returning _ c0 z0).mono ?_
  rintro e u' w'' ⟨rfl, rfl, rfl⟩
  refine leaves_cons (f := 236) (args := #[.pointer (some ⟨b, off + 1, none⟩)]) (by simp [settle]) (by simp [go_sem]) ?_
  refine (unlock_deferred ⟨b, off + 1, none⟩ _ _ ?_ (by simp [z1])).mono ?_
  · refine (World.cell?_setCell_other _ ⟨b, off, none⟩ ⟨b, off + 1, none⟩ _ (by simp)).trans ?_
    rw [World.cell?_drew]
    exact c1
  rintro e u' w'' ⟨rfl, rfl, rfl⟩
  simpa [Leaves, settle, results, Tryz.results224] using hR
set_option maxRecDepth 100000 in
set_option maxHeartbeats 1600000 in
theorem once_any (b off : Nat) (g : FuncId) (caps : Array Value) (w : World) (R : World → Prop) (hg : ∀ w, (callFunc g caps).run Tryz.prog w = .ok (.enter g caps) w)
    (h0 : w.cell? ⟨b, off, none⟩ = some (.int .u32 0)) (h1 : w.cell? ⟨b, off + 1, none⟩ = some (.int .i32 0))
    (f0 : w.frozen? ⟨b, off, none⟩ = false) (f1 : w.frozen? ⟨b, off + 1, none⟩ = false)
    (hcall : Calls Tryz.prog g caps (w.setCell ⟨b, off + 1, none⟩ (.int .i32 1)) fun e w2 => e = .returned (.tuple #[]) ∧ w2.cell? ⟨b, off, none⟩ = some (.int .u32 0) ∧ w2.cell? ⟨b, off + 1, none⟩ = some (.int .i32 1) ∧
      w2.frozen? ⟨b, off, none⟩ = false ∧ w2.frozen? ⟨b, off + 1, none⟩ = false ∧ R ((w2.drew.setCell ⟨b, off, none⟩ (.int .u32 1)).setCell ⟨b, off + 1, none⟩ (.int .i32 0))) :
    Calls Tryz.prog 209 #[.pointer (some ⟨b, off, none⟩), .func (.func g) #[] caps] w fun e w' => e = .returned (.tuple #[]) ∧ R w' := by
  have hl := run_call_load (P := Tryz.prog) Tryz.func234 (by kernel_rfl) (by kernel_rfl) (by kernel_rfl) .u32 (by kernel_rfl) h0
  have hnot : ∀ (x : Bool) (w : World), (Op.unary .not (.bool x)).run Tryz.prog w = .ok (.bool (!x)) w := fun _ _ => rfl
  go_enter Tryz.func209, Tryz.ntmps209
  go_wp2_with (first | (go_at_call 224; refine (slow_any b off g caps _ R hg h0 h1 f0 f1 hcall).mono ?_; rintro e w' ⟨rfl, hR⟩) | (go_at_call 223; go_in))
  go_end0
  exact ⟨rfl, hR⟩
theorem once_done (a : Addr) (d : Int) (hd : ¬ d = 0) (fv : Value) (w : World) (h0 : w.cell? a = some (.int .u32 d)) :
    Calls Tryz.prog 209 #[.pointer (some a), fv] w fun e w' => e = .returned (.tuple #[]) ∧ w' = w := by
  have hl := run_call_load (P := Tryz.prog) Tryz.func234 (by kernel_rfl) (by kernel_rfl) (by kernel_rfl) .u32 (by kernel_rfl) h0
  have hnot : ∀ (x : Bool) (w : World), (Op.unary .not (.bool x)).run Tryz.prog w = .ok (.bool (!x)) w := fun _ _ => rfl
  have hd' : (d != 0) = true := by simp [hd]
  go_enter Tryz.func209, Tryz.ntmps209
  go_wp2
  go_end0
  exact ⟨rfl, rfl⟩
theorem onceOk : OnceOk Tryz.prog 209 := ⟨fun b off g caps w R hg h0 h1 f0 f1 hcall => once_any b off g caps w R (run_callFunc hg caps) h0 h1 f0 f1 hcall, fun b off v w h => once_done ⟨b, off, none⟩ 1 (by simp) v w h⟩
end Go.Proofs.YtpbcabanpppfoaaGreat

namespace Go.Proofs.YtpbcabanpppfoaaGreat
open Go Go.Gx Go.Vz
set_option maxRecDepth 100000
/-! ### 178 (*sha.Hash).ready -/
abbrev HD := CL D HashC
def rdyP (e : HD) : HD := bif e.2.1 == 0 then (e.1, 1, 0, e.2.2.2.1, ⟨KL⟩, ⟨SL⟩, e.2.2.2.2.2.2) else e
def ready_c : OCon D := { ash := [.nm 0], es := [.box 261 HashC], rsh := [], pes := [.box 261 HashC], pre := some fun _ e => e.1.2.1 = 0 ∧ e.1.2.2.1 = 0 ∨ e.1.2.1 = 1, post := fun _ e => ((), (rdyP e.1, ())) }
def rd0 (i : HD) : CL D ready_c.ash × EL D ready_c.es := ((), ((i.1, 0, 0, i.2.2.2), ()))
def rd1 (i : HD) : CL D ready_c.ash × EL D ready_c.es := ((), ((i.1, 1, i.2.2), ()))
abbrev Γs := addC (addC noC 211 roots_c) 212 start_c
theorem Ks : Kept EF Tryz.prog Γs noO := (K0.c roots_ok).c start_ok
def callR : CallH D := onceH Tryz.prog 209 (calls EF Z0 Γs noO (fun _ _ => none) 1) noH
theorem callR_ok : CallAll Tryz.prog callR := onceH_ok onceOk (calls_ok Z0 Ks 1) noH_ok
theorem ready_ok : ready_c.ok EF Tryz.prog 178 := OCon.proveHS2 (c := ready_c) EF Z0 rd0 rd1 (fun a e h => by
    obtain ⟨⟨b, d, q, r⟩, u⟩ := e
    rcases h with ⟨h1, h2⟩ | h1
    · have h1 : d = 0 := h1
      have h2 : q = 0 := h2
      exact .inl ⟨(b, d, q, r), by rw [h1, h2]; rfl⟩
    · have h1 : d = 1 := h1
      exact .inr ⟨(b, d, q, r), by rw [h1]; rfl⟩) (H := fun _ _ _ => none) (H2 := fun _ _ _ => none) callR_ok
  (fun (i : HD) => (rfl : some ((), (rdyP (i.1, 0, 0, i.2.2.2), ())) = some (ready_c.post (rd0 i).1 (rd0 i).2)))
  (fun (i : HD) => (rfl : some ((), (rdyP (i.1, 1, i.2.2), ())) = some (ready_c.post (rd1 i).1 (rd1 i).2)))
/-! ### 91 sha.Of -/
def tkK (st b : List Int) : List Int := takeF st b KL
def lbI (all : Int) (i : Nat) : Int := ((UInt8.ofNat (Int.toNat (IntKind.wrap .u8 (shrK .u64 (IntKind.wrap .u64 (8 * IntKind.wrap .u64 all)) (IntKind.wrap .i64 (8 * ((i : Nat) : Int))))))).toNat : Nat)
def dgO (st : List Int) : Nat → Dig
  | 0 => Dig.zero
  | i + 1 => digPut (dgO st i) i (UInt8.ofNat (Int.toNat (IntKind.wrap .u8 (shrK .u32 (gi st (i / 4)) ((24 - 8 * (i % 4) : Nat) : Int)))))
def allI (b : List UInt8) : Int := IntKind.wrap .i64 (0 + (b.length : Nat))
def wrW (b : List UInt8) : List Int × List Int × Nat := wrF tkK (b.length + 1) b SL (List.replicate 64 0) 0
def shaD (b : List UInt8) : Dig := dgO (sumF tkK (lbI (allI b)) (wrW b).1 (wrW b).2.1 (wrW b).2.2) 32
structure WI where
  rem : List UInt8
  st : List Int
  bl : List Int
  h : Nat
abbrev rowW (st bl : List Int) (h all : Int) : List (SV D) := [.b true, .i .u32 1, .i .i32 0, .i .u32 0, .vec .u32 64 KL, .vec .u32 8 st, .vec .u8 64 bl, .i .i64 h, .i .i64 all]
def wr_h (b : List UInt8) : LH D := ⟨WI, [1], fun i => [.sl .u8 i.rem], fun i => i.h < 64 ∧ ∃ f, i.rem.length < f ∧ wrF tkK f i.rem i.st i.bl i.h = wrW b, fun i => i.rem.length, [], fun _ => [], [1], fun i => [.box 261 (rowW i.st i.bl (i.h : Nat) (allI b))]⟩
abbrev nW (i : WI) : Nat := Nat.min i.rem.length (64 - i.h)
abbrev blW (i : WI) : List Int := lput i.bl i.h (u8s (i.rem.take (64 - i.h)))
theorem wr_step {f : Nat} {i : WI} (h : 0 < i.rem.length) : wrF tkK (f + 1) i.rem i.st i.bl i.h = bif Nat.beq (i.h + nW i) 64 then wrF tkK f (i.rem.drop (nW i)) (tkK i.st (blW i)) (blW i) 0 else wrF tkK f (i.rem.drop (nW i)) i.st (blW i) (i.h + nW i) := by
  simp only [wrF, h, decide_true, cond_true]
theorem wr_end {f : Nat} {i : WI} (h : ¬ 0 < i.rem.length) : wrF tkK f i.rem i.st i.bl i.h = (i.st, i.bl, i.h) := by
  cases f with
  | zero => rfl
  | succ f => simp only [wrF, h, decide_false, cond_false]
theorem beqF {a b : Nat} (h : a ≠ b) : Nat.beq a b = false := by
  cases e : Nat.beq a b with
  | false => rfl
  | true => exact absurd (Nat.eq_of_beq_eq_true e) h
theorem nW_le (i : WI) : nW i ≤ 64 - i.h := Nat.min_le_right _ _
theorem nW_pos {i : WI} (h : 0 < i.rem.length) (hl : i.h < 64) : 0 < nW i ∧ nW i ≤ i.rem.length := ⟨Nat.lt_min.2 ⟨h, by omega⟩, Nat.min_le_left _ _⟩
theorem wrapN {i : WI} (hl : i.h < 64) : IntKind.wrap .i64 ((i.h : Int) + (nW i : Int)) = ((i.h + nW i : Nat) : Int) := by
  rw [← Int.natCast_add]; exact wrap_i64_nat (by have := nW_le i; omega)
section
variable {b : List UInt8} {i : WI} (hI : (wr_h b).inv i) (h4 : 0 < i.rem.length)
include hI h4
theorem wrR1 (h5 : (IntKind.wrap .i64 ((i.h : Int) + (nW i : Int)) == 64) = true) : Rnd (wr_h b) i [.sl .u8 (List.drop (nW i) (List.take i.rem.length i.rem))] [] [.box 261 (rowW (takeF i.st (blW i) KL) (blW i) 0 (allI b))] := by
  obtain ⟨hl, f, hf, hW⟩ := hI
  rw [wrapN hl] at h5
  have h6 : i.h + nW i = 64 := by have := eq_of_beq h5; omega
  obtain ⟨n1, n2⟩ := nW_pos h4 hl
  refine ⟨⟨i.rem.drop (nW i), tkK i.st (blW i), blW i, 0⟩, by rw [List.take_length]; rfl, rfl, rfl, ⟨by show 0 < 64; omega, f - 1, ?_, ?_⟩, ?_⟩
  · show (i.rem.drop (nW i)).length < f - 1
    rw [List.length_drop]; omega
  · obtain ⟨g, rfl⟩ : ∃ g, f = g + 1 := ⟨f - 1, by omega⟩
    rw [wr_step h4, h6] at hW
    exact hW
  · show (i.rem.drop (nW i)).length < i.rem.length
    rw [List.length_drop]; omega
theorem wrR0 (h5 : (IntKind.wrap .i64 ((i.h : Int) + (nW i : Int)) == 64) = false) : Rnd (wr_h b) i [.sl .u8 (List.drop (nW i) (List.take i.rem.length i.rem))] [] [.box 261 (rowW i.st (blW i) (IntKind.wrap .i64 ((i.h : Int) + (nW i : Int))) (allI b))] := by
  obtain ⟨hl, f, hf, hW⟩ := hI
  rw [wrapN hl] at h5 ⊢
  have h6 : i.h + nW i ≠ 64 := by intro e; rw [e] at h5; cases h5
  obtain ⟨n1, n2⟩ := nW_pos h4 hl
  have := nW_le i
  refine ⟨⟨i.rem.drop (nW i), i.st, blW i, i.h + nW i⟩, by rw [List.take_length]; rfl, rfl, rfl, ⟨by show i.h + nW i < 64; omega, f - 1, ?_, ?_⟩, ?_⟩
  · show (i.rem.drop (nW i)).length < f - 1
    rw [List.length_drop]; omega
  · obtain ⟨g, rfl⟩ : ∃ g, f = g + 1 := ⟨f - 1, by omega⟩
    rw [wr_step h4, beqF h6] at hW
    exact hW
  · show (i.rem.drop (nW i)).length < i.rem.length
    rw [List.length_drop]; omega
end
def of_c : Con D := { ts := [.sl .u8], rt := [.dig], ret := fun a => (shaD a.1, ()) }
def isT1 (f : Nat) (l : List (SV D)) : Bool := Nat.beq f 179 && (match l with | [_, .ptr i _, .ptr j _] => Nat.beq i j | _ => false)
def ofH (b : List UInt8) : Nat → Nat → Option (Hint D) := fun f r => match f, r with | 139, 5 => some (.inv (wr_h b)) | 140, _ => some (.unr 33) | _, _ => none
theorem Kt1 : Kept EF Tryz.prog noC (addO noO 179 take1_c) := K0.o take1_ok
theorem Kt2 : Kept EF Tryz.prog noC (addO (addO noO 178 ready_c) 179 take2_c) := (K0.o ready_ok).o take2_ok
theorem of_ok : of_c.ok Tryz.prog 91 := Con.proveH (c := of_c) EF Z0 (H := fun a => ofH a.1) (call := fun a => callsA EF Z0 isT1 noC (addO noO 179 take1_c) (addO (addO noO 178 ready_c) 179 take2_c) (ofH a.1) 2) (fun a => callsA_ok EF Z0 Kt1 Kt2 2) fun (a : HL D of_c.ts) (_ : of_c.holds a) =>
  And.intro (Pre.mk (.inl ⟨rfl, rfl⟩) : Pre ((0 : Int) = 0 ∧ (0 : Int) = 0 ∨ (0 : Int) = 1)) (
  brL fun hl : a.1.length ≤ maxL =>
  And.intro (⟨⟨a.1, SL, List.replicate 64 0, 0⟩, rfl, rfl, rfl, ⟨by show 0 < 64; omega, a.1.length + 1, Nat.lt_succ_self _, rfl⟩⟩ : Ent (wr_h a.1) [.sl .u8 a.1] [] [.box 261 (rowW SL (List.replicate 64 0) 0 (allI a.1))])
  fun (i : WI) (hI : (wr_h a.1).inv i) =>
  brL fun hl2 : i.rem.length ≤ maxL =>
  bq (decide ((0 : Int) < (i.rem.length : Int))) (fun h4 => have h4' : 0 < i.rem.length := by simpa using h4
    have hh : i.h < 64 := hI.1
    brN (c := decide ((0 : Int) ≤ (i.h : Int)) && (decide ((i.h : Int) ≤ ((64 : Nat) : Int)) && (decide (((64 : Nat) : Int) ≤ ((64 : Nat) : Int)) && decide ((i.h : Int) < ((64 : Nat) : Int))))) (by simp; omega) (
    brN (c := decide ((0 : Int) ≤ ((nW i : Nat) : Int)) && (decide (((nW i : Nat) : Int) ≤ (i.rem.length : Int)) && decide ((i.rem.length : Int) ≤ (i.rem.length : Int)))) (by have := (nW_pos h4' hh).2; simp; omega) (
    bq (IntKind.wrap .i64 ((i.h : Int) + (nW i : Int)) == 64) (fun h5 => wrR1 hI h4' h5) (fun h5 => wrR0 hI h4' h5))))
  (fun h4 => have h4' : ¬ 0 < i.rem.length := by simpa using h4
    have hW : wrW a.1 = (i.st, i.bl, i.h) := by obtain ⟨_, f, _, hW⟩ := hI; rw [← hW]; exact wr_end h4'
    have hh : i.h < 64 := hI.1
    And.intro (Pre.mk (.inr rfl) : Pre ((1 : Int) = 0 ∧ (0 : Int) = 0 ∨ (1 : Int) = 1)) (
    both (
    brN (c := decide ((0 : Int) ≤ (i.h : Int)) && (decide ((i.h : Int) ≤ ((64 : Nat) : Int)) && (decide (((64 : Nat) : Int) ≤ ((64 : Nat) : Int)) && decide ((i.h : Int) < ((64 : Nat) : Int))))) (by simp; omega) (
    brN (c := decide ((0 : Int) ≤ (i.h : Int)) && decide ((i.h : Int) < ((64 : Nat) : Int))) (by simp; omega) (
    bq (decide ((56 : Int) ≤ (i.h : Int))) (fun h6 =>
      (by
        have h6 : decide (56 ≤ i.h) = true := by simp at h6 ⊢; omega
        unfold of_c shaD; simp only [hW, sumF, h6, cond_true] : some (dgO (tkK (tkK i.st (clrB i.bl i.h)) (putL (lbI (allI a.1)) (lput (clrB i.bl i.h) 0 (List.replicate 64 0)) 8)) 32, ()) = some (of_c.ret a)))
    (fun h6 =>
      (by
        have h6 : decide (56 ≤ i.h) = false := by simp at h6 ⊢; omega
        unfold of_c shaD; simp only [hW, sumF, h6, cond_false] : some (dgO (tkK i.st (putL (lbI (allI a.1)) (clrB i.bl i.h) 8)) 32, ()) = some (of_c.ret a)))))))))
end Go.Proofs.YtpbcabanpppfoaaGreat
