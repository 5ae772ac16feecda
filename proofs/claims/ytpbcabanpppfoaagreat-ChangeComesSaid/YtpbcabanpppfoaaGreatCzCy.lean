/- Walks by reckoning: what a function of data gives gets a name. No condition. -/
import Derived.Test.YtpbcabanpppfoaaGreatVzSort
import Derived.Test.YtpbcabanpppfoaaGreatCzTr
import Derived.Test.YtpbcabanpppfoaaGreatCzAw
set_option linter.all false
namespace Go.Vz
open Go Go.Gx
variable {E : DE} {P : Program} (F : DF E) (Z : ZF P E)
def conN (Γ : Nat → Option (Con E)) (els : CallH E) : CallH E := fun f l s K => match Γ f with
  | some c => match frzs s l with
    | some s1 => match shutVs F s1.bs c.ts (l.map (rsv s1.hp)) with
      | some a => match c.pre with
        | none => Nmd (c.ret a) fun q => K s1 (outV F c.rt q)
        | some p => Pre (p a) ∧ Nmd (c.ret a) fun q => K s1 (outV F c.rt q)
      | none => No f
    | none => No f
  | none => els f l s K
variable {F}
end Go.Vz

namespace Go.Proofs.YtpbcabanpppfoaaGreat
open Go Go.Gx Go.Vz
set_option maxRecDepth 100000
abbrev ΓB : Nat → Option (Con D) := addC noC 9 bring_c
/-- Calls of the statements. -/
noncomputable abbrev callW (Γ : Nat → Option (Con D)) (Δ : Nat → Option (OCon D)) (H : Nat → Nat → Option (Hint D)) (n : Nat) : CallH D := conN EF ΓB (callsG EF ZL ΛL Γ Δ H n)
end Go.Proofs.YtpbcabanpppfoaaGreat

namespace Go.Proofs.YtpbcabanpppfoaaGreat
open Go Go.Gx Go.Vz
set_option maxRecDepth 100000
section
variable {f : Int} (hf : f = 1 ∨ f = 2) {w : Word} {q : Int × Unit}
end
/-! ### 18 Word.change -/
def wc_c : Con D := { ts := [.st 12, .int], rt := [.st 3], pre := some (fun a => a.2.1 = 1 ∨ a.2.1 = 2), ret := fun a => (wCh a.2.1 a.1, ()) }
/-! ### 19 Word.note -/
def wn_c : Con D := { ts := [.st 12, .int], rt := [.st 7], pre := some (fun a => a.2.1 = 1 ∨ a.2.1 = 2), ret := fun a => (wNt a.2.1 a.1, ()) }
/-! ### 17 notes -/
abbrev Γnt : Nat → Option (Con D) := addC ΓL 49 chg_c
abbrev Δnt : Nat → Option (OCon D) := addO ΔM 50 bo_c
def nts_c : OCon D := { ash := [.nm 0, .dat (.st 3)], es := BS, rsh := [], pes := BS, pre := some (fun a _ => isW a.1), post := fun a e => ((), (IntKind.wrap .i64 (e.1.1 + 1), ()), bkS (chBytes a.1) e.2.1, bkM (chBytes a.1) e.2.1 e.2.2.1, ()) }
end Go.Proofs.YtpbcabanpppfoaaGreat

namespace Go.Proofs.YtpbcabanpppfoaaGreat
open Go Go.Gx Go.Vz
set_option maxRecDepth 100000
/-- The view that a node has reached. -/
def vw (l : List Int) (i : Nat) : Int := bif decide (i < l.length) then brg (l.getD i 0) 10 else 0
def chE (l : List Int) (i : Nat) : Int × Said := (((i + 1 : Nat) : Int), dgS (says ((i + 1 : Nat) : Int) (vw l i) (byt ((i + 1 : Nat) : Int))))
def chI (l : List Int) (n : Nat) : List Nat := (List.range n).filter fun i => decide (0 < vw l i)
def chJ (l : List Int) (n : Nat) : List (Int × Said) := (chI l n).map (chE l)
abbrev geq (w : Int) (xs : List Int) : Nat := xs.countP fun y => decide (w ≤ y)
section
variable {F : Nat} (hF : F = 1 ∨ F = 2) {l : List Int}
include hF
end
end Go.Proofs.YtpbcabanpppfoaaGreat

namespace Go.Proofs.YtpbcabanpppfoaaGreat
open Go Go.Gx Go.Vz
set_option maxRecDepth 100000
abbrev eP : List Nat := [0, 1, 2, 6, 7, 8]
/-- The entries of a council, in the order of a statement's. -/
abbrev pK (k : KD) : EL D PS := (k.2.1, kSn k, kMo k, k.1, kCh k, kAk k, ())
section
variable {B V : Int} {F : UInt8} {k : KD}
variable {b : UInt8}
end
abbrev Γa : Nat → Option (Con D) := addC ΓL 16 awk_c
theorem Ka : Kept EF Tryz.prog Γa ΔM := KM1.c awk_ok
end Go.Proofs.YtpbcabanpppfoaaGreat

namespace Go.Proofs.YtpbcabanpppfoaaGreat
open Go Go.Gx Go.Vz
set_option maxRecDepth 100000
/-- Of a council that was told of the first n nodes' views. -/
abbrev jI (l : List Int) (F n : Nat) (k : KD) : Prop := Fct (F : Int) (3 * F + 1) (chJ l n) [] k
end Go.Proofs.YtpbcabanpppfoaaGreat

namespace Go.Vz
open Go Go.Gx
/-- A list that a slot holds. -/
def slL {E : DE} (t : Ty) (s : St E) (k : Nat) : List (t.den E) := match gSl t (slV s k) with | some l => l | none => []
end Go.Vz
namespace Go.Proofs.YtpbcabanpppfoaaGreat
open Go Go.Gx Go.Vz
set_option maxRecDepth 100000
abbrev eQ : List Nat := [1, 2, 3, 7, 8, 9]
abbrev Γt : Nat → Option (Con D) := addC (addC Γa 18 wc_c) 19 wn_c
abbrev Δt : Nat → Option (OCon D) := addO (addO ΔM 17 nts_c) 21 bc_c
end Go.Proofs.YtpbcabanpppfoaaGreat

namespace Go.Proofs.YtpbcabanpppfoaaGreat
open Go Go.Gx Go.Vz
set_option maxRecDepth 100000
section
variable {f v : Int} {i j : Nat} {k k2 : KD} {r : List Change} {n : Nat} {z : Change}
theorem TI.le (h : TI f i k) (hj : i ≤ j) : TI f j k := ⟨h.hd, h.nd, Nat.le_trans h.len hj, h.ch, h.ak⟩
theorem TI.new {q : EL D PS} (h : q.2.2.2.1 = (crewS f, 3 * f + 1, 1, 1, ())) (h1 : q.2.2.2.2.1 = []) (h2 : q.2.2.2.2.2.1 = []) : TI f 0 (kP q) := by
  obtain ⟨a, b, c, d, x, y, u⟩ := q
  have h1 : x = [] := h1
  have h2 : y = [] := h2
  subst h1 h2
  exact ⟨h, List.nodup_nil, Nat.le_refl _, fun n s hs => (by cases hs), fun x n a ha => (by cases ha)⟩
theorem cl_mo {e : EL D BS} (h : e.2.2.1 ≠ []) : (bc_c.post () e).1 = (true, ()) := by
  show ((bif (mgetT (E := D) .dig .str e.2.1 Dig.zero).isSome then true else decide ((0 : Int) < ((e.2.2.1.length : Nat) : Int)), ()) : Bool × Unit) = (true, ())
  have : 0 < e.2.2.1.length := List.length_pos_iff.2 h
  rw [show decide ((0 : Int) < ((e.2.2.1.length : Nat) : Int)) = true by simp; omega]
  cases (mgetT (E := D) .dig .str e.2.1 Dig.zero).isSome <;> rfl
/-- What one that is ready is. -/
abbrev isR (f v : Int) (k : KD) (z : Change) : Prop := ∃ n b, z = says n v b ∧ 1 ≤ n ∧ n ≤ 3 * f ∧ 1 ≤ v ∧ v ≤ 4 ∧ (f < n → b = byt n) ∧ vchB k z = true
theorem getD_at {d : Change} (hn : n < r.length) : r.getD (n : Int).toNat d = r[n] := by
  rw [Int.toNat_natCast, List.getD_eq_getElem?_getD, List.getElem?_eq_getElem hn]; rfl
end
end Go.Proofs.YtpbcabanpppfoaaGreat

namespace Go.Vz
open Go Go.Gx
/-- What an own slice in a slot holds. -/
def owL {E : DE} (t : Ty) (s : St E) (k : Nat) : List (t.den E) := match owH s k with
  | .arr u _ xs => (match Ty.to (fun t => List (t.den E)) u t xs with | some ys => ys | none => [])
  | _ => []
end Go.Vz
namespace Go.Proofs.YtpbcabanpppfoaaGreat
open Go Go.Gx Go.Vz
set_option maxRecDepth 100000
/-! ### numbers brought to 0, to 1 -/
def brc_c (r : Int) : Con D := { ts := [.int, .int], rt := [.int], pre := some (fun a => brg a.1 a.2.1 = r), ret := fun _ => (r, ()) }
theorem brc_ok (r : Int) : (brc_c r).ok Tryz.prog 9 := by
  intro a G w vs hw hp hv
  have hp : (bring_p a).1 = r := hp
  refine (bring_ok a G w vs hw trivial hv).mono ?_
  intro G' v hv
  have e : bring_p a = (r, ()) := Prod.ext hp rfl
  show OutIs G' [.int] (r, ()) v
  rw [← e]; exact hv
def cw_p (r : Int) : Con D := { ts := [.int, .sl .u8], rt := [.bool], pre := some (fun a => brg a.1 2 = r), ret := fun _ => (true, ()) }
/-- The byte that the liar tells a node. -/
def lie (l : List UInt8) (j : Nat) : UInt8 := bif decide (j < l.length) then l.getD j 0 else 0
def cj_h (v : UInt8) : LH D := ⟨Unit, [14], fun _ => [.u8 v], fun _ => True, fun _ => 0, [], fun _ => [], [], fun _ => []⟩
def cs_h (xs : List Note) : LH D := ⟨Unit, [9], fun _ => [.own 0], fun _ => True, fun _ => 0, [(.sl 9, .st 7, 46)], fun _ => [.arr (.st 7) 46 xs], [], fun _ => []⟩
abbrev Γc1 (r : Int) : Nat → Option (Con D) := addC Γa 9 (brc_c r)
abbrev Δc1 : Nat → Option (OCon D) := addO ΔM 21 bc_c
theorem Kc1 (r : Int) : Kept EF Tryz.prog (Γc1 r) Δc1 := (Ka.c (brc_ok r)).o bc_ok
end Go.Proofs.YtpbcabanpppfoaaGreat

namespace Go.Proofs.YtpbcabanpppfoaaGreat
open Go Go.Gx Go.Vz
set_option maxRecDepth 100000
/-- A node that says what is so. -/
abbrev In (f y : Int) : Prop := 2 ≤ y ∧ y ≤ 2 * f + 2
section
variable (b : Int → UInt8)
def kb (y z : Int) : UInt8 := bif z == 1 then b y else byt z
/-- The change of a node as another one heard it. -/
abbrev kc (y z : Int) : Change := says z 3 (kb b y z)
abbrev dgC (c : Change) : Dig := shaD (chBytes c)
abbrev Gd (f : Int) (n : Note) : Prop := (∃ y, In f y ∧ n = tells (kc b y y)) ∨ ∃ y z, In f y ∧ (z = 1 ∨ In f z) ∧ y ≠ z ∧ n = ackW y (kc b y z)
structure CK (f j : Int) (k : KD) : Prop where
  hd : k.1 = (crewS f, j, 1, 1, ())
  nd : ((kCh k).map fun p : Int × Said => p.1).Nodup
  ch : ∀ n s, sdO (kCh k) n = some s → (n = 1 ∨ In f n) ∧ s = dgS (kc b j n)
  one : (sdO (kCh k) 1).isSome = true
  own : (sdO (kCh k) j).isSome = true
  ak : ∀ y z a, akO (kAk k) ⟨y, z⟩ = some a → In f y ∧ (z = 1 ∨ In f z) ∧ y ≠ z ∧ a = ⟨3, dgC (kc b y z)⟩
/-- What a message tells is held. -/
structure Eff (f j : Int) (n : Note) (k : KD) : Prop where
  t : ∀ y, In f y → n = tells (kc b y y) → (sdO (kCh k) y).isSome = true
  a : ∀ y z, In f y → y ≠ j → (z = 1 ∨ In f z) → y ≠ z → n = ackW y (kc b y z) → (akO (kAk k) ⟨y, z⟩).isSome = true
end
section
variable {b : Int → UInt8} {f j : Int} {k : KD} {n : Note}
theorem kb_2 {y z : Int} (h : z ≠ 1) : kb b y z = byt z := by unfold kb; rw [show (z == 1) = false by simpa using h]; rfl
theorem CK.fct (h : CK b f j k) : Fct f j (kCh k) (kAk k) k := ⟨h.hd, rfl, rfl⟩
/-- What changes nothing but the book. -/
def wb (k q : KD) : KD := (k.1, q.2.1, kCh k, kAk k, kSn q, kMo q, ())
theorem CK.wb (h : CK b f j k) (q : KD) : CK b f j (wb k q) := ⟨h.hd, h.nd, h.ch, h.one, h.own, h.ak⟩
theorem Eff.wb (h : Eff b f j n k) (q : KD) : Eff b f j n (wb k q) := ⟨h.t, h.a⟩
theorem tell_ne {y y' z : Int} : tells (kc b y y) ≠ ackW y' (kc b y' z) := fun h => by
  have := congrArg Note.kind h
  have : (7 : Int) = 8 := this
  omega
theorem tell_in {y y' : Int} (h : tells (kc b y y) = tells (kc b y' y')) : y = y' := congrArg Note.sender h
theorem ack_in {y y' z z' : Int} (h : ackW y (kc b y z) = ackW y' (kc b y' z')) : y = y' ∧ z = z' := ⟨congrArg Note.sender h, congrArg Note.node h⟩
theorem take_own (h : Fct f j (kCh k) (kAk k) k) (hf : f = 1 ∨ f = 2) (hj : 1 ≤ j ∧ j ≤ 3 * f + 1) (hk : n.kind = 7 ∨ n.kind = 8) (hg : n.group = 1) (he : n.epoch = 1) (hs : n.sender = j) : takeP k n = (([], 110, ()), k) := by
  unfold takeP
  rw [h.gr, h.ep, h.cr, h.sf, hg, he, hs, hasB_ok hf hj.1 hj.2]
  rcases hk with hk | hk <;> rw [hk] <;> simp
theorem takeC_same {me v m : Int} {c : UInt8} {ch : List (Int × Said)} {ak : List (Pair × Ack)} (h : Fct f me ch ak k) (hc : (sd ch m).change = says m v c) : (takeC k (tells (says m v c))).1 = ([], 0, ()) ∧ (takeC k (tells (says m v c))).2 = kInk k (chBytes (says m v c)) := by
  unfold takeC
  rw [h.ch]
  show (bif decide (v < (sd ch m).change.view) then _ else bif (bif (sd ch m).change.view == v then !dq (α := Change) (sd ch m).change (says m v c) else false) then _ else bif (sd ch m).change.view == v then _ else _ : (List Note × Int × Unit) × KD).1 = _ ∧ (bif decide (v < (sd ch m).change.view) then _ else bif (bif (sd ch m).change.view == v then !dq (α := Change) (sd ch m).change (says m v c) else false) then _ else bif (sd ch m).change.view == v then _ else _ : (List Note × Int × Unit) × KD).2 = _
  have e1 : (sd ch m).change.view = v := by rw [hc]; rfl
  rw [show decide (v < (sd ch m).change.view) = false by rw [e1]; simp, show ((sd ch m).change.view == v) = true by simpa using e1, show dq (α := Change) (sd ch m).change (says m v c) = true by unfold dq; simpa using hc]
  exact ⟨rfl, rfl⟩
theorem hears_any {me v x m : Int} {d : Dig} {ch : List (Int × Said)} {ak : List (Pair × Ack)} (h : Fct f me ch ak k) (hv : 0 < v) (ha : akO ak ⟨x, m⟩ = none ∨ akO ak ⟨x, m⟩ = some ⟨v, d⟩) : (hearsP k (ackNt x v m d)).1.1 = 0 ∧ (hearsP k (ackNt x v m d)).2 = kAks k (akPut (kAk k) ⟨x, m⟩ ⟨v, d⟩) := by
  unfold hearsP
  rw [h.ak]
  rcases ha with ha | ha
  · have e : akG ak ⟨x, m⟩ = ack0 := congrArg (fun o : Option Ack => o.getD ack0) ha
    show (bif decide (v < (akG ak ⟨x, m⟩).view) then _ else bif (bif (akG ak ⟨x, m⟩).view == v then _ else false) then _ else _ : (Int × Unit) × KD).1.1 = 0 ∧ (bif decide (v < (akG ak ⟨x, m⟩).view) then _ else bif (bif (akG ak ⟨x, m⟩).view == v then _ else false) then _ else _ : (Int × Unit) × KD).2 = _
    rw [e, show decide (v < ack0.view) = false by show decide (v < 0) = false; simp; omega, show (ack0.view == v) = false by show ((0 : Int) == v) = false; simp; omega]
    exact ⟨rfl, rfl⟩
  · have e : akG ak ⟨x, m⟩ = ⟨v, d⟩ := congrArg (fun o : Option Ack => o.getD ack0) ha
    show (bif decide (v < (akG ak ⟨x, m⟩).view) then _ else bif (bif (akG ak ⟨x, m⟩).view == v then !((akG ak ⟨x, m⟩).view == v && (decide ((akG ak ⟨x, m⟩).dig = d) && true)) else false) then _ else _ : (Int × Unit) × KD).1.1 = 0 ∧ (bif decide (v < (akG ak ⟨x, m⟩).view) then _ else bif (bif (akG ak ⟨x, m⟩).view == v then !((akG ak ⟨x, m⟩).view == v && (decide ((akG ak ⟨x, m⟩).dig = d) && true)) else false) then _ else _ : (Int × Unit) × KD).2 = _
    rw [e]
    simp
/-- What comes of an answer that is no error. -/
abbrev exA (r : (List Note × Int × Unit) × KD) : List Note := bif r.1.2.1 == 0 then r.1.1 else []
/-- A step. -/
structure Stp (b : Int → UInt8) (f j : Int) (k : KD) (n : Note) (r : (List Note × Int × Unit) × KD) : Prop where
  ck : CK b f j r.2
  eff : Eff b f j n r.2
  keep : ∀ m, Eff b f j m k → Eff b f j m r.2
  inb : ∀ c, inB k c → inB r.2 c
  gd : ∀ m ∈ exA r, Gd b f m
  em : ∀ y, In f y → y ≠ j → (sdO (kCh r.2) y).isSome = true → (sdO (kCh k) y).isSome = true ∨ ackW j (kc b j y) ∈ exA r
  len : (exA r).length + (kCh k).length ≤ (kCh r.2).length
theorem Stp.same (h : CK b f j k) {r : (List Note × Int × Unit) × KD} (e1 : exA r = []) (e2 : r.2.1 = k.1) (e3 : kCh r.2 = kCh k) (e4 : kAk r.2 = kAk k) (hi : ∀ c, inB k c → inB r.2 c) (he : Eff b f j n k) : Stp b f j k n r := by
  refine ⟨⟨e2.trans h.hd, by rw [e3]; exact h.nd, by rw [e3]; exact h.ch, by rw [e3]; exact h.one, by rw [e3]; exact h.own, by rw [e4]; exact h.ak⟩, ⟨by rw [e3]; exact he.t, by rw [e4]; exact he.a⟩, fun m hm => ⟨by rw [e3]; exact hm.t, by rw [e4]; exact hm.a⟩, hi, (by rw [e1]; intro m hm; cases hm), fun y _ _ hy => ?_, by rw [e1, e3]; simp⟩
  rw [e3] at hy; exact .inl hy
theorem CK.step (h : CK b f j k) (hf : f = 1 ∨ f = 2) (hj : In f j) (hn : Gd b f n) : Stp b f j k n (takeP k n) := by
  rcases hn with ⟨y, hy, rfl⟩ | ⟨y, z, hy, hz, hyz, rfl⟩
  · by_cases e : y = j
    · subst e
      rw [take_own h.fct hf ⟨by omega, by omega⟩ (.inl rfl) rfl rfl rfl]
      exact .same h rfl rfl rfl rfl (fun _ hc => hc) ⟨fun y' _ hq => by rw [← tell_in hq]; exact h.own, fun y' z _ _ _ _ hq => absurd hq tell_ne⟩
    · have e0 : takeP k (tells (kc b y y)) = takeC k (tells (kc b y y)) := take_tell h.fct hf (by omega) (by omega) e
      rw [e0]
      have ekb : kb b y y = kb b j y := by rw [kb_2 (by omega), kb_2 (by omega)]
      cases hs : sdO (kCh k) y with
      | some s =>
        have hc := h.ch _ _ hs
        have h1 : (sd (kCh k) y).change = kc b y y := by
          unfold sd; rw [hs]
          show s.change = _
          rw [hc.2]
          show says y 3 (kb b j y) = says y 3 (kb b y y)
          rw [ekb]
        obtain ⟨g1, g2⟩ := takeC_same h.fct h1
        refine .same h (by show exA _ = []; unfold exA; rw [g1]; rfl) (by rw [g2]) (by rw [g2]) (by rw [g2]) (fun c hc => by rw [g2]; exact inB_keep hc _) ⟨fun y' _ hq => by rw [← tell_in hq, hs]; rfl, fun y' z _ _ _ _ hq => absurd hq tell_ne⟩
      | none =>
        have h0 : (sd (kCh k) y).change.view = 0 := by unfold sd; rw [hs]; rfl
        obtain ⟨g1, g2⟩ := takeC_new h.fct (b := kb b y y) (v := 3) (n := y) (by rw [h0]; omega)
        have hex : exA (takeC k (tells (kc b y y))) = [ackW j (kc b y y)] := by unfold exA; rw [g1]; rfl
        have hout : kc b y y = kc b j y := by show says y 3 (kb b y y) = says y 3 (kb b j y); rw [ekb]
        have hb : ∀ c, inB k c → inB (takeC k (tells (kc b y y))).2 c := fun c hc => by
          rcases takeC_2 (k := k) (tells (kc b y y)) with g | g
          · rw [g]; exact inB_keep hc _
          · rw [g]; exact inB_keep hc _
        have hch : kCh (takeC k (tells (kc b y y))).2 = chPut (kCh k) y (dgS (kc b y y)) := g2.ch
        have hak : kAk (takeC k (tells (kc b y y))).2 = kAk k := g2.ak
        have hup : ∀ m, (sdO (kCh k) m).isSome = true → (sdO (kCh (takeC k (tells (kc b y y))).2) m).isSome = true := fun m hm => by
          rw [hch, sdO_put]
          by_cases e : y = m
          · rw [if_pos e]; rfl
          · rw [if_neg e]; exact hm
        refine ⟨⟨g2.hd, by rw [hch]; exact chPut_nodup h.nd, fun m s hs' => ?_, hup _ h.one, hup _ h.own, by rw [hak]; exact h.ak⟩, ⟨fun y' _ hq => ?_, fun y' z _ _ _ _ hq => absurd hq tell_ne⟩, fun m hm => ⟨fun y' q1 q2 => hup _ (hm.t y' q1 q2), by rw [hak]; exact hm.a⟩, hb, fun m hm => ?_, fun m _ hmj hm => ?_, ?_⟩
        · rw [hch, sdO_put] at hs'
          by_cases e : y = m
          · rw [if_pos e] at hs'
            subst e
            exact ⟨.inr hy, by rw [← hout]; exact (Option.some.inj hs').symm⟩
          · rw [if_neg e] at hs'; exact h.ch _ _ hs'
        · rw [← tell_in hq, hch, sdO_put, if_pos rfl]; rfl
        · rw [hex, List.mem_singleton] at hm
          subst hm
          exact .inr ⟨j, y, hj, .inr hy, fun e' => e e'.symm, by rw [← hout]⟩
        · rw [hch, sdO_put] at hm
          by_cases e' : y = m
          · subst e'; exact .inr (by rw [hex, hout]; exact List.mem_singleton.2 rfl)
          · rw [if_neg e'] at hm; exact .inl hm
        · have hnew : y ∉ (kCh k).map fun p : Int × Said => p.1 := fun hm => by
            obtain ⟨s, hs'⟩ := @mget_key Int Said (Ty.dec D .int) (kCh k) y hm
            have hs' : sdO (kCh k) y = some s := hs'
            rw [hs] at hs'; cases hs'
          rw [hex, hch, chPut_new hnew]
          simp; omega
  · by_cases e : y = j
    · subst e
      rw [take_own h.fct hf ⟨by omega, by omega⟩ (.inr rfl) rfl rfl rfl]
      exact .same h rfl rfl rfl rfl (fun _ hc => hc) ⟨fun y' _ hq => absurd hq.symm tell_ne, fun y' z' _ hne _ _ hq => absurd (ack_in hq).1.symm hne⟩
    · have hz1 : 1 ≤ z ∧ z ≤ 3 * f + 1 := by rcases hz with rfl | hz <;> omega
      have e0 : takeP k (ackW y (kc b y z)) = (([], (hearsP k (ackW y (kc b y z))).1.1, ()), (hearsP k (ackW y (kc b y z))).2) := take_ack h.fct hf (c := kc b y z) (by omega) (by omega) e hz1.1 hz1.2
      obtain ⟨g1, g2⟩ := hears_any h.fct (x := y) (m := z) (v := 3) (d := dgC (kc b y z)) (by omega) (by
        cases ha : akO (kAk k) ⟨y, z⟩ with
        | none => exact .inl rfl
        | some a => exact .inr (by rw [(h.ak _ _ _ ha).2.2.2]))
      rw [e0]
      have g2 : (hearsP k (ackW y (kc b y z))).2 = kAks k (akPut (kAk k) ⟨y, z⟩ ⟨3, dgC (kc b y z)⟩) := g2
      rw [g2]
      have hput : ∀ p, (akO (kAk k) p).isSome = true → (akO (akPut (kAk k) ⟨y, z⟩ ⟨3, dgC (kc b y z)⟩) p).isSome = true := fun p hp => by
        by_cases e : (⟨y, z⟩ : Pair) = p
        · rw [← e, akO_put_eq]; rfl
        · rw [akO_put e]; exact hp
      have hex : ∀ q : Int, exA ((([], q, ()), kAks k (akPut (kAk k) ⟨y, z⟩ ⟨3, dgC (kc b y z)⟩)) : (List Note × Int × Unit) × KD) = [] := fun q => by
        unfold exA; show (bif q == 0 then ([] : List Note) else []) = []; cases q == 0 <;> rfl
      refine ⟨⟨h.hd, h.nd, h.ch, h.one, h.own, fun y' z' a ha => ?_⟩, ⟨fun y' _ hq => absurd hq.symm tell_ne, fun y' z' _ hne _ _ hq => ?_⟩, fun m hm => ⟨hm.t, fun y' z' q1 q2 q3 q4 q5 => hput _ (hm.a y' z' q1 q2 q3 q4 q5)⟩, fun c hc => hc, (by rw [hex]; intro m hm; cases hm), fun m _ _ hm => .inl hm, (by rw [hex]; simp)⟩
      · have ha2 : akO (akPut (kAk k) ⟨y, z⟩ ⟨3, dgC (kc b y z)⟩) ⟨y', z'⟩ = some a := ha
        by_cases e : (⟨y, z⟩ : Pair) = ⟨y', z'⟩
        · rw [e, akO_put_eq] at ha2
          simp only [Pair.mk.injEq] at e
          obtain ⟨rfl, rfl⟩ := e
          exact ⟨hy, hz, hyz, (Option.some.inj ha2).symm⟩
        · have ha3 := (akO_put (a := (⟨3, dgC (kc b y z)⟩ : Ack)) (l := kAk k) e).symm.trans ha2
          exact h.ak _ _ _ ha3
      · obtain ⟨rfl, rfl⟩ := ack_in hq
        show (akO (akPut (kAk k) ⟨y, z⟩ ⟨3, dgC (kc b y z)⟩) ⟨y, z⟩).isSome = true
        rw [akO_put_eq]; rfl
end
end Go.Proofs.YtpbcabanpppfoaaGreat
