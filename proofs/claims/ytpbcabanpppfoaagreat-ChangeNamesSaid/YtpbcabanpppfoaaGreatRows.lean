/-
  No cell of these rows narrows 'for every input' (looked for: loops, veiled, ifaces, maps, wideKeys, modest, calm, conditions, laid).
  DERIVED. THE GIVEN ROWS OF THIS SEAT. 6 by the template 'for every input the law returns true; each argument reads behind the call as it read before'; 0 by the template 'total and deterministic' (their statements: YtpbcabanpppfoaaGreatTotals.lean).
  GIVEN WITH THE SEED: the statements are not yours to turn. If you find one false, say at which input.
  Laid BY PROGRAM, IN A SANDBOX (cutbox-rows.mjs): the forced cells as the released guide's own fill.sh prints them over the translation d218cd6a2bea017a… (all of the seat's roots in one cut). By AI agents, Wed Nov 11 2026. No macro, syntax, notation, axiom, sorry.
-/
import Derived.Test.YtpbcabanpppfoaaGreatChecked
import GoSem.Claim
import GoSem.ClaimJoined
import GoSem.ClaimMapViews
import Derived.JoinedTies
import Derived.KernelRfl
namespace Go.Proofs.YtpbcabanpppfoaaGreat
/- THE CELL 'sum', in the pinned program and in every row, IS THE sha256 OF THE DUMP (.gsa) THAT YtpbcabanpppfoaaGreatProg.lean LOADS. Nothing in Lean hashes anything: it is a label: what it is worth is what the hold of that sum in a sandbox is worth. -/
noncomputable def Tryz.pinned : Pinned := { name := "ytpbcabanpppfoaagreat", sum := "d218cd6a2bea017a313e3ab46efd990533e5476eda664dedba134b997a129aa0", checked := Tryz.checked }
namespace Rows
def none {H : Type} : Left H := { results := [], args := [] }

/-- 'bastidelaw19.ChangeJoins': WHATEVER THE INPUT: true; the input reads as it did. -/
def changeJoinsSpec : ChangeSpec := { name := "changeJoins", fn := fun _ => fun
  | [d1, d2, d3] => { results := [.lit (.bool true)], args := [d1, d2, d3] }
  | _ => none }
def changeJoinsRow : OpenClaim := { program := "ytpbcabanpppfoaagreat", sum := "d218cd6a2bea017a313e3ab46efd990533e5476eda664dedba134b997a129aa0", func := "bastide/bastidelaw19.ChangeJoins", spec := "changeJoins", inPlace := ["internal/bytealg.Compare", "sync/atomic.AddInt64", "math/bits.Add64", "sync/atomic.LoadUint32", "(*internal/sync.Mutex).Lock", "internal/race.Disable", "sync/atomic.CompareAndSwapInt32", "internal/race.Enable", "internal/race.Acquire", "(*internal/sync.Mutex).lockSlow", "internal/sync.runtime_canSpin", "internal/sync.runtime_doSpin", "internal/sync.throw", "internal/sync.runtime_nanotime", "internal/sync.runtime_SemacquireMutex", "sync/atomic.AddInt32", "(*internal/sync.Mutex).Unlock", "internal/race.ReleaseMerge", "(*internal/sync.Mutex).unlockSlow", "internal/sync.fatal", "internal/sync.runtime_Semrelease", "sync/atomic.StoreUint32"], unfollowed := true, recurses := true, plainKeys := false, apart := false }
def ChangeJoinsSaid : Prop := changeJoinsRow.holds Tryz.pinned (OpenSpec.ofChange changeJoinsSpec)

/-- ITS FALSE NEIGHBOUR: 'it returns false'. Refute it at one input. -/
def changeJoinsWrong : ChangeSpec := { name := "changeJoins", fn := fun _ => fun
  | [d1, d2, d3] => { results := [.lit (.bool false)], args := [d1, d2, d3] }
  | _ => none }
def ChangeJoinsWrongFalsely : Prop := changeJoinsRow.holds Tryz.pinned (OpenSpec.ofChange changeJoinsWrong)

/-- 'bastidelaw19.ChangeTrue': WHATEVER THE INPUT: true; the input reads as it did. -/
def changeTrueSpec : ChangeSpec := { name := "changeTrue", fn := fun _ => fun
  | [d1, d2, d3] => { results := [.lit (.bool true)], args := [d1, d2, d3] }
  | _ => none }
def changeTrueRow : OpenClaim := { program := "ytpbcabanpppfoaagreat", sum := "d218cd6a2bea017a313e3ab46efd990533e5476eda664dedba134b997a129aa0", func := "bastide/bastidelaw19.ChangeTrue", spec := "changeTrue", inPlace := ["sync/atomic.AddInt64", "math/bits.Add64", "sync/atomic.LoadUint32", "(*internal/sync.Mutex).Lock", "internal/race.Disable", "sync/atomic.CompareAndSwapInt32", "internal/race.Enable", "internal/race.Acquire", "(*internal/sync.Mutex).lockSlow", "internal/sync.runtime_canSpin", "internal/sync.runtime_doSpin", "internal/sync.throw", "internal/sync.runtime_nanotime", "internal/sync.runtime_SemacquireMutex", "sync/atomic.AddInt32", "(*internal/sync.Mutex).Unlock", "internal/race.ReleaseMerge", "(*internal/sync.Mutex).unlockSlow", "internal/sync.fatal", "internal/sync.runtime_Semrelease", "sync/atomic.StoreUint32", "internal/bytealg.Compare"], unfollowed := true, recurses := true, plainKeys := false, apart := false }
def ChangeTrueSaid : Prop := changeTrueRow.holds Tryz.pinned (OpenSpec.ofChange changeTrueSpec)

/-- ITS FALSE NEIGHBOUR: 'it returns false'. Refute it at one input. -/
def changeTrueWrong : ChangeSpec := { name := "changeTrue", fn := fun _ => fun
  | [d1, d2, d3] => { results := [.lit (.bool false)], args := [d1, d2, d3] }
  | _ => none }
def ChangeTrueWrongFalsely : Prop := changeTrueRow.holds Tryz.pinned (OpenSpec.ofChange changeTrueWrong)

/-- 'bastidelaw19.ChangeLast': WHATEVER THE INPUT: true; the input reads as it did. -/
def changeLastSpec : ChangeSpec := { name := "changeLast", fn := fun _ => fun
  | [d] => { results := [.lit (.bool true)], args := [d] }
  | _ => none }
def changeLastRow : OpenClaim := { program := "ytpbcabanpppfoaagreat", sum := "d218cd6a2bea017a313e3ab46efd990533e5476eda664dedba134b997a129aa0", func := "bastide/bastidelaw19.ChangeLast", spec := "changeLast", inPlace := ["internal/bytealg.Compare", "sync/atomic.AddInt64", "math/bits.Add64", "sync/atomic.LoadUint32", "(*internal/sync.Mutex).Lock", "internal/race.Disable", "sync/atomic.CompareAndSwapInt32", "internal/race.Enable", "internal/race.Acquire", "(*internal/sync.Mutex).lockSlow", "internal/sync.runtime_canSpin", "internal/sync.runtime_doSpin", "internal/sync.throw", "internal/sync.runtime_nanotime", "internal/sync.runtime_SemacquireMutex", "sync/atomic.AddInt32", "(*internal/sync.Mutex).Unlock", "internal/race.ReleaseMerge", "(*internal/sync.Mutex).unlockSlow", "internal/sync.fatal", "internal/sync.runtime_Semrelease", "sync/atomic.StoreUint32"], unfollowed := true, recurses := true, plainKeys := false, apart := false }
def ChangeLastSaid : Prop := changeLastRow.holds Tryz.pinned (OpenSpec.ofChange changeLastSpec)

/-- ITS FALSE NEIGHBOUR: 'it returns false'. Refute it at one input. -/
def changeLastWrong : ChangeSpec := { name := "changeLast", fn := fun _ => fun
  | [d] => { results := [.lit (.bool false)], args := [d] }
  | _ => none }
def ChangeLastWrongFalsely : Prop := changeLastRow.holds Tryz.pinned (OpenSpec.ofChange changeLastWrong)

/-- 'bastidelaw19.ChangeComes': WHATEVER THE INPUT: true; the input reads as it did. -/
def changeComesSpec : ChangeSpec := { name := "changeComes", fn := fun _ => fun
  | [d1, d2] => { results := [.lit (.bool true)], args := [d1, d2] }
  | _ => none }
def changeComesRow : OpenClaim := { program := "ytpbcabanpppfoaagreat", sum := "d218cd6a2bea017a313e3ab46efd990533e5476eda664dedba134b997a129aa0", func := "bastide/bastidelaw19.ChangeComes", spec := "changeComes", inPlace := ["internal/bytealg.Compare", "sync/atomic.AddInt64", "math/bits.Add64", "sync/atomic.LoadUint32", "(*internal/sync.Mutex).Lock", "internal/race.Disable", "sync/atomic.CompareAndSwapInt32", "internal/race.Enable", "internal/race.Acquire", "(*internal/sync.Mutex).lockSlow", "internal/sync.runtime_canSpin", "internal/sync.runtime_doSpin", "internal/sync.throw", "internal/sync.runtime_nanotime", "internal/sync.runtime_SemacquireMutex", "sync/atomic.AddInt32", "(*internal/sync.Mutex).Unlock", "internal/race.ReleaseMerge", "(*internal/sync.Mutex).unlockSlow", "internal/sync.fatal", "internal/sync.runtime_Semrelease", "sync/atomic.StoreUint32"], unfollowed := true, recurses := true, plainKeys := false, apart := false }
def ChangeComesSaid : Prop := changeComesRow.holds Tryz.pinned (OpenSpec.ofChange changeComesSpec)

/-- ITS FALSE NEIGHBOUR: 'it returns false'. Refute it at one input. -/
def changeComesWrong : ChangeSpec := { name := "changeComes", fn := fun _ => fun
  | [d1, d2] => { results := [.lit (.bool false)], args := [d1, d2] }
  | _ => none }
def ChangeComesWrongFalsely : Prop := changeComesRow.holds Tryz.pinned (OpenSpec.ofChange changeComesWrong)

/-- 'bastidelaw19.ChangePlays': WHATEVER THE INPUT: true; the input reads as it did. -/
def changePlaysSpec : ChangeSpec := { name := "changePlays", fn := fun _ => fun
  | [d1, d2, d3] => { results := [.lit (.bool true)], args := [d1, d2, d3] }
  | _ => none }
def changePlaysRow : OpenClaim := { program := "ytpbcabanpppfoaagreat", sum := "d218cd6a2bea017a313e3ab46efd990533e5476eda664dedba134b997a129aa0", func := "bastide/bastidelaw19.ChangePlays", spec := "changePlays", inPlace := ["internal/bytealg.Compare", "sync/atomic.AddInt64", "math/bits.Add64", "sync/atomic.LoadUint32", "(*internal/sync.Mutex).Lock", "internal/race.Disable", "sync/atomic.CompareAndSwapInt32", "internal/race.Enable", "internal/race.Acquire", "(*internal/sync.Mutex).lockSlow", "internal/sync.runtime_canSpin", "internal/sync.runtime_doSpin", "internal/sync.throw", "internal/sync.runtime_nanotime", "internal/sync.runtime_SemacquireMutex", "sync/atomic.AddInt32", "(*internal/sync.Mutex).Unlock", "internal/race.ReleaseMerge", "(*internal/sync.Mutex).unlockSlow", "internal/sync.fatal", "internal/sync.runtime_Semrelease", "sync/atomic.StoreUint32"], unfollowed := true, recurses := true, plainKeys := false, apart := false }
def ChangePlaysSaid : Prop := changePlaysRow.holds Tryz.pinned (OpenSpec.ofChange changePlaysSpec)

/-- ITS FALSE NEIGHBOUR: 'it returns false'. Refute it at one input. -/
def changePlaysWrong : ChangeSpec := { name := "changePlays", fn := fun _ => fun
  | [d1, d2, d3] => { results := [.lit (.bool false)], args := [d1, d2, d3] }
  | _ => none }
def ChangePlaysWrongFalsely : Prop := changePlaysRow.holds Tryz.pinned (OpenSpec.ofChange changePlaysWrong)

/-- 'bastidelaw19.ChangeNames': WHATEVER THE INPUT: true; the input reads as it did. -/
def changeNamesSpec : ChangeSpec := { name := "changeNames", fn := fun _ => fun
  | [] => { results := [.lit (.bool true)], args := [] }
  | _ => none }
def changeNamesRow : OpenClaim := { program := "ytpbcabanpppfoaagreat", sum := "d218cd6a2bea017a313e3ab46efd990533e5476eda664dedba134b997a129aa0", func := "bastide/bastidelaw19.ChangeNames", spec := "changeNames", inPlace := ["internal/bytealg.Compare", "sync/atomic.AddInt64", "math/bits.Add64", "sync/atomic.LoadUint32", "(*internal/sync.Mutex).Lock", "internal/race.Disable", "sync/atomic.CompareAndSwapInt32", "internal/race.Enable", "internal/race.Acquire", "(*internal/sync.Mutex).lockSlow", "internal/sync.runtime_canSpin", "internal/sync.runtime_doSpin", "internal/sync.throw", "internal/sync.runtime_nanotime", "internal/sync.runtime_SemacquireMutex", "sync/atomic.AddInt32", "(*internal/sync.Mutex).Unlock", "internal/race.ReleaseMerge", "(*internal/sync.Mutex).unlockSlow", "internal/sync.fatal", "internal/sync.runtime_Semrelease", "sync/atomic.StoreUint32"], unfollowed := true, recurses := true, plainKeys := false, apart := false }
def ChangeNamesSaid : Prop := changeNamesRow.holds Tryz.pinned (OpenSpec.ofChange changeNamesSpec)

/-- ITS FALSE NEIGHBOUR: 'it returns false'. Refute it at one input. -/
def changeNamesWrong : ChangeSpec := { name := "changeNames", fn := fun _ => fun
  | [] => { results := [.lit (.bool false)], args := [] }
  | _ => none }
def ChangeNamesWrongFalsely : Prop := changeNamesRow.holds Tryz.pinned (OpenSpec.ofChange changeNamesWrong)

/- THE SECOND FORM. 'bulk': how many values and letters a reading holds, each counted each time it is reached (what is shared counts as often as it is met; a slice's spare places count too). A statement '..UptoSaid' is the law's where the arguments, and the package variables that the reading takes, are together of bulk at most 1048576: NARROWER than '..Said'. Prove '..Said' where nothing that the law and all that it calls make is longer than what came in: it says more and counts as full. Else prove '..UptoSaid'. A law counts once. -/
mutual
def uptoBulk {H : Type} : DataW H → Nat
  | .lit (.string bytes) => bytes.length + 1
  | .lit _ => 1
  | .nil => 1
  | .ptr d => uptoBulk d + 1
  | .slice elems spare => uptoBulkAll elems + uptoBulkAll spare + 1
  | .agg parts => uptoBulkAll parts + 1
  | .iface _ d => uptoBulk d + 1
  | .map entries => uptoBulkEntries entries + 1
  | .held _ => 1
def uptoBulkAll {H : Type} : List (DataW H) → Nat
  | [] => 0
  | d :: r => uptoBulk d + uptoBulkAll r
def uptoBulkEntries {H : Type} : List (Lit × DataW H) → Nat
  | [] => 0
  | x :: r => uptoBulkEntry x + uptoBulkEntries r
def uptoBulkEntry {H : Type} : Lit × DataW H → Nat
  | (.string bytes, d) => bytes.length + uptoBulk d + 1
  | (_, d) => uptoBulk d + 1
 end
def uptoSmall : (H : Type) → List (DataW H) → Bool := fun _ ds => decide (uptoBulkAll ds ≤ 1048576)
def OpenSpec.upto (s : _root_.Go.ChangeSpec) : _root_.Go.OpenSpec := { _root_.Go.OpenSpec.ofChange s with cond := some uptoSmall }

/-- 'bastidelaw19.ChangeJoins', WHERE WHAT IT READS IS OF BULK AT MOST 1048576: true; the input reads as it did. -/
def changeJoinsUptoRow : OpenClaim := { program := "ytpbcabanpppfoaagreat", sum := "d218cd6a2bea017a313e3ab46efd990533e5476eda664dedba134b997a129aa0", func := "bastide/bastidelaw19.ChangeJoins", spec := "changeJoins", inPlace := ["internal/bytealg.Compare", "sync/atomic.AddInt64", "math/bits.Add64", "sync/atomic.LoadUint32", "(*internal/sync.Mutex).Lock", "internal/race.Disable", "sync/atomic.CompareAndSwapInt32", "internal/race.Enable", "internal/race.Acquire", "(*internal/sync.Mutex).lockSlow", "internal/sync.runtime_canSpin", "internal/sync.runtime_doSpin", "internal/sync.throw", "internal/sync.runtime_nanotime", "internal/sync.runtime_SemacquireMutex", "sync/atomic.AddInt32", "(*internal/sync.Mutex).Unlock", "internal/race.ReleaseMerge", "(*internal/sync.Mutex).unlockSlow", "internal/sync.fatal", "internal/sync.runtime_Semrelease", "sync/atomic.StoreUint32"], unfollowed := true, recurses := true, plainKeys := false, apart := false, narrowed := true }
def ChangeJoinsUptoSaid : Prop := changeJoinsUptoRow.holds Tryz.pinned (OpenSpec.upto changeJoinsSpec)

/-- 'bastidelaw19.ChangeTrue', WHERE WHAT IT READS IS OF BULK AT MOST 1048576: true; the input reads as it did. -/
def changeTrueUptoRow : OpenClaim := { program := "ytpbcabanpppfoaagreat", sum := "d218cd6a2bea017a313e3ab46efd990533e5476eda664dedba134b997a129aa0", func := "bastide/bastidelaw19.ChangeTrue", spec := "changeTrue", inPlace := ["sync/atomic.AddInt64", "math/bits.Add64", "sync/atomic.LoadUint32", "(*internal/sync.Mutex).Lock", "internal/race.Disable", "sync/atomic.CompareAndSwapInt32", "internal/race.Enable", "internal/race.Acquire", "(*internal/sync.Mutex).lockSlow", "internal/sync.runtime_canSpin", "internal/sync.runtime_doSpin", "internal/sync.throw", "internal/sync.runtime_nanotime", "internal/sync.runtime_SemacquireMutex", "sync/atomic.AddInt32", "(*internal/sync.Mutex).Unlock", "internal/race.ReleaseMerge", "(*internal/sync.Mutex).unlockSlow", "internal/sync.fatal", "internal/sync.runtime_Semrelease", "sync/atomic.StoreUint32", "internal/bytealg.Compare"], unfollowed := true, recurses := true, plainKeys := false, apart := false, narrowed := true }
def ChangeTrueUptoSaid : Prop := changeTrueUptoRow.holds Tryz.pinned (OpenSpec.upto changeTrueSpec)

/-- 'bastidelaw19.ChangeLast', WHERE WHAT IT READS IS OF BULK AT MOST 1048576: true; the input reads as it did. -/
def changeLastUptoRow : OpenClaim := { program := "ytpbcabanpppfoaagreat", sum := "d218cd6a2bea017a313e3ab46efd990533e5476eda664dedba134b997a129aa0", func := "bastide/bastidelaw19.ChangeLast", spec := "changeLast", inPlace := ["internal/bytealg.Compare", "sync/atomic.AddInt64", "math/bits.Add64", "sync/atomic.LoadUint32", "(*internal/sync.Mutex).Lock", "internal/race.Disable", "sync/atomic.CompareAndSwapInt32", "internal/race.Enable", "internal/race.Acquire", "(*internal/sync.Mutex).lockSlow", "internal/sync.runtime_canSpin", "internal/sync.runtime_doSpin", "internal/sync.throw", "internal/sync.runtime_nanotime", "internal/sync.runtime_SemacquireMutex", "sync/atomic.AddInt32", "(*internal/sync.Mutex).Unlock", "internal/race.ReleaseMerge", "(*internal/sync.Mutex).unlockSlow", "internal/sync.fatal", "internal/sync.runtime_Semrelease", "sync/atomic.StoreUint32"], unfollowed := true, recurses := true, plainKeys := false, apart := false, narrowed := true }
def ChangeLastUptoSaid : Prop := changeLastUptoRow.holds Tryz.pinned (OpenSpec.upto changeLastSpec)

/-- 'bastidelaw19.ChangeComes', WHERE WHAT IT READS IS OF BULK AT MOST 1048576: true; the input reads as it did. -/
def changeComesUptoRow : OpenClaim := { program := "ytpbcabanpppfoaagreat", sum := "d218cd6a2bea017a313e3ab46efd990533e5476eda664dedba134b997a129aa0", func := "bastide/bastidelaw19.ChangeComes", spec := "changeComes", inPlace := ["internal/bytealg.Compare", "sync/atomic.AddInt64", "math/bits.Add64", "sync/atomic.LoadUint32", "(*internal/sync.Mutex).Lock", "internal/race.Disable", "sync/atomic.CompareAndSwapInt32", "internal/race.Enable", "internal/race.Acquire", "(*internal/sync.Mutex).lockSlow", "internal/sync.runtime_canSpin", "internal/sync.runtime_doSpin", "internal/sync.throw", "internal/sync.runtime_nanotime", "internal/sync.runtime_SemacquireMutex", "sync/atomic.AddInt32", "(*internal/sync.Mutex).Unlock", "internal/race.ReleaseMerge", "(*internal/sync.Mutex).unlockSlow", "internal/sync.fatal", "internal/sync.runtime_Semrelease", "sync/atomic.StoreUint32"], unfollowed := true, recurses := true, plainKeys := false, apart := false, narrowed := true }
def ChangeComesUptoSaid : Prop := changeComesUptoRow.holds Tryz.pinned (OpenSpec.upto changeComesSpec)

/-- 'bastidelaw19.ChangePlays', WHERE WHAT IT READS IS OF BULK AT MOST 1048576: true; the input reads as it did. -/
def changePlaysUptoRow : OpenClaim := { program := "ytpbcabanpppfoaagreat", sum := "d218cd6a2bea017a313e3ab46efd990533e5476eda664dedba134b997a129aa0", func := "bastide/bastidelaw19.ChangePlays", spec := "changePlays", inPlace := ["internal/bytealg.Compare", "sync/atomic.AddInt64", "math/bits.Add64", "sync/atomic.LoadUint32", "(*internal/sync.Mutex).Lock", "internal/race.Disable", "sync/atomic.CompareAndSwapInt32", "internal/race.Enable", "internal/race.Acquire", "(*internal/sync.Mutex).lockSlow", "internal/sync.runtime_canSpin", "internal/sync.runtime_doSpin", "internal/sync.throw", "internal/sync.runtime_nanotime", "internal/sync.runtime_SemacquireMutex", "sync/atomic.AddInt32", "(*internal/sync.Mutex).Unlock", "internal/race.ReleaseMerge", "(*internal/sync.Mutex).unlockSlow", "internal/sync.fatal", "internal/sync.runtime_Semrelease", "sync/atomic.StoreUint32"], unfollowed := true, recurses := true, plainKeys := false, apart := false, narrowed := true }
def ChangePlaysUptoSaid : Prop := changePlaysUptoRow.holds Tryz.pinned (OpenSpec.upto changePlaysSpec)

/-- 'bastidelaw19.ChangeNames', WHERE WHAT IT READS IS OF BULK AT MOST 1048576: true; the input reads as it did. -/
def changeNamesUptoRow : OpenClaim := { program := "ytpbcabanpppfoaagreat", sum := "d218cd6a2bea017a313e3ab46efd990533e5476eda664dedba134b997a129aa0", func := "bastide/bastidelaw19.ChangeNames", spec := "changeNames", inPlace := ["internal/bytealg.Compare", "sync/atomic.AddInt64", "math/bits.Add64", "sync/atomic.LoadUint32", "(*internal/sync.Mutex).Lock", "internal/race.Disable", "sync/atomic.CompareAndSwapInt32", "internal/race.Enable", "internal/race.Acquire", "(*internal/sync.Mutex).lockSlow", "internal/sync.runtime_canSpin", "internal/sync.runtime_doSpin", "internal/sync.throw", "internal/sync.runtime_nanotime", "internal/sync.runtime_SemacquireMutex", "sync/atomic.AddInt32", "(*internal/sync.Mutex).Unlock", "internal/race.ReleaseMerge", "(*internal/sync.Mutex).unlockSlow", "internal/sync.fatal", "internal/sync.runtime_Semrelease", "sync/atomic.StoreUint32"], unfollowed := true, recurses := true, plainKeys := false, apart := false, narrowed := true }
def ChangeNamesUptoSaid : Prop := changeNamesUptoRow.holds Tryz.pinned (OpenSpec.upto changeNamesSpec)

end Rows
end Go.Proofs.YtpbcabanpppfoaaGreat
