/-
  No cell of these rows narrows 'for every input' (looked for: loops, veiled, ifaces, maps, wideKeys, modest, calm, conditions, laid).
  DERIVED. THE GIVEN ROWS OF THIS SEAT. 4 by the template 'for every input the law returns true; each argument reads behind the call as it read before'; 0 by the template 'total and deterministic' (their statements: YtanbfejhhnhabaaTotals.lean).
  GIVEN WITH THE SEED: the statements are not yours to turn. If you find one false, say at which input.
  Laid BY PROGRAM, IN A SANDBOX (cutbox-rows.mjs): the forced cells as the released guide's own fill.sh prints them over the translation 87af154d1f9eefc0… (all of the seat's roots in one cut). By AI agents, Wed Nov 11 2026. No macro, syntax, notation, axiom, sorry.
-/
import Derived.Test.YtanbfejhhnhabaaChecked
import GoSem.Claim
import GoSem.ClaimJoined
import GoSem.ClaimMapViews
import Derived.JoinedTies
import Derived.KernelRfl
namespace Go.Proofs.Ytanbfejhhnhabaa
/- THE CELL 'sum', in the pinned program and in every row, IS THE sha256 OF THE DUMP (.gsa) THAT YtanbfejhhnhabaaProg.lean LOADS. Nothing in Lean hashes anything: it is a label: what it is worth is what the hold of that sum in a sandbox is worth. -/
noncomputable def Try.pinned : Pinned := { name := "ytanbfejhhnhabaa", sum := "87af154d1f9eefc0fd08c00ea46d78a126f53556bf80fe67e6f94188e038cb77", checked := Try.checked }
namespace Rows
def none {H : Type} : Left H := { results := [], args := [] }

/-- 'abacuslaw23.CrdtCounts': WHATEVER THE INPUT: true; the input reads as it did. -/
def crdtCountsSpec : ChangeSpec := { name := "crdtCounts", fn := fun _ => fun
  | [d1, d2] => { results := [.lit (.bool true)], args := [d1, d2] }
  | _ => none }
def crdtCountsRow : OpenClaim := { program := "ytanbfejhhnhabaa", sum := "87af154d1f9eefc0fd08c00ea46d78a126f53556bf80fe67e6f94188e038cb77", func := "abacus/abacuslaw23.CrdtCounts", spec := "crdtCounts", inPlace := ["(*internal/sync.Mutex).Lock", "internal/race.Disable", "sync/atomic.CompareAndSwapInt32", "internal/race.Enable", "internal/race.Acquire", "(*internal/sync.Mutex).lockSlow", "internal/sync.runtime_canSpin", "internal/sync.runtime_doSpin", "internal/sync.throw", "internal/sync.runtime_nanotime", "internal/sync.runtime_SemacquireMutex", "sync/atomic.AddInt32", "(*internal/sync.Mutex).Unlock", "internal/race.ReleaseMerge", "(*internal/sync.Mutex).unlockSlow", "internal/sync.fatal", "internal/sync.runtime_Semrelease"], unfollowed := true, recurses := true, apart := false }
def CrdtCountsSaid : Prop := crdtCountsRow.holds Try.pinned (OpenSpec.ofChange crdtCountsSpec)

/-- ITS FALSE NEIGHBOUR: 'it returns false'. Refute it at one input. -/
def crdtCountsWrong : ChangeSpec := { name := "crdtCounts", fn := fun _ => fun
  | [d1, d2] => { results := [.lit (.bool false)], args := [d1, d2] }
  | _ => none }
def CrdtCountsWrongFalsely : Prop := crdtCountsRow.holds Try.pinned (OpenSpec.ofChange crdtCountsWrong)

/-- 'abacuslaw23.CrdtLattice': WHATEVER THE INPUT: true; the input reads as it did. -/
def crdtLatticeSpec : ChangeSpec := { name := "crdtLattice", fn := fun _ => fun
  | [d1, d2, d3] => { results := [.lit (.bool true)], args := [d1, d2, d3] }
  | _ => none }
def crdtLatticeRow : OpenClaim := { program := "ytanbfejhhnhabaa", sum := "87af154d1f9eefc0fd08c00ea46d78a126f53556bf80fe67e6f94188e038cb77", func := "abacus/abacuslaw23.CrdtLattice", spec := "crdtLattice", inPlace := ["(*internal/sync.Mutex).Lock", "internal/race.Disable", "sync/atomic.CompareAndSwapInt32", "internal/race.Enable", "internal/race.Acquire", "(*internal/sync.Mutex).lockSlow", "internal/sync.runtime_canSpin", "internal/sync.runtime_doSpin", "internal/sync.throw", "internal/sync.runtime_nanotime", "internal/sync.runtime_SemacquireMutex", "sync/atomic.AddInt32", "(*internal/sync.Mutex).Unlock", "internal/race.ReleaseMerge", "(*internal/sync.Mutex).unlockSlow", "internal/sync.fatal", "internal/sync.runtime_Semrelease"], unfollowed := true, recurses := true, apart := false }
def CrdtLatticeSaid : Prop := crdtLatticeRow.holds Try.pinned (OpenSpec.ofChange crdtLatticeSpec)

/-- ITS FALSE NEIGHBOUR: 'it returns false'. Refute it at one input. -/
def crdtLatticeWrong : ChangeSpec := { name := "crdtLattice", fn := fun _ => fun
  | [d1, d2, d3] => { results := [.lit (.bool false)], args := [d1, d2, d3] }
  | _ => none }
def CrdtLatticeWrongFalsely : Prop := crdtLatticeRow.holds Try.pinned (OpenSpec.ofChange crdtLatticeWrong)

/-- 'abacuslaw23.CrdtMeets': WHATEVER THE INPUT: true; the input reads as it did. -/
def crdtMeetsSpec : ChangeSpec := { name := "crdtMeets", fn := fun _ => fun
  | [d1, d2] => { results := [.lit (.bool true)], args := [d1, d2] }
  | _ => none }
def crdtMeetsRow : OpenClaim := { program := "ytanbfejhhnhabaa", sum := "87af154d1f9eefc0fd08c00ea46d78a126f53556bf80fe67e6f94188e038cb77", func := "abacus/abacuslaw23.CrdtMeets", spec := "crdtMeets", inPlace := ["(*internal/sync.Mutex).Lock", "internal/race.Disable", "sync/atomic.CompareAndSwapInt32", "internal/race.Enable", "internal/race.Acquire", "(*internal/sync.Mutex).lockSlow", "internal/sync.runtime_canSpin", "internal/sync.runtime_doSpin", "internal/sync.throw", "internal/sync.runtime_nanotime", "internal/sync.runtime_SemacquireMutex", "sync/atomic.AddInt32", "(*internal/sync.Mutex).Unlock", "internal/race.ReleaseMerge", "(*internal/sync.Mutex).unlockSlow", "internal/sync.fatal", "internal/sync.runtime_Semrelease"], unfollowed := true, recurses := true, apart := false }
def CrdtMeetsSaid : Prop := crdtMeetsRow.holds Try.pinned (OpenSpec.ofChange crdtMeetsSpec)

/-- ITS FALSE NEIGHBOUR: 'it returns false'. Refute it at one input. -/
def crdtMeetsWrong : ChangeSpec := { name := "crdtMeets", fn := fun _ => fun
  | [d1, d2] => { results := [.lit (.bool false)], args := [d1, d2] }
  | _ => none }
def CrdtMeetsWrongFalsely : Prop := crdtMeetsRow.holds Try.pinned (OpenSpec.ofChange crdtMeetsWrong)

/-- 'abacuslaw23.CrdtStates': WHATEVER THE INPUT: true; the input reads as it did. -/
def crdtStatesSpec : ChangeSpec := { name := "crdtStates", fn := fun _ => fun
  | [d1, d2, d3, d4] => { results := [.lit (.bool true)], args := [d1, d2, d3, d4] }
  | _ => none }
def crdtStatesRow : OpenClaim := { program := "ytanbfejhhnhabaa", sum := "87af154d1f9eefc0fd08c00ea46d78a126f53556bf80fe67e6f94188e038cb77", func := "abacus/abacuslaw23.CrdtStates", spec := "crdtStates", inPlace := ["(*internal/sync.Mutex).Lock", "internal/race.Disable", "sync/atomic.CompareAndSwapInt32", "internal/race.Enable", "internal/race.Acquire", "(*internal/sync.Mutex).lockSlow", "internal/sync.runtime_canSpin", "internal/sync.runtime_doSpin", "internal/sync.throw", "internal/sync.runtime_nanotime", "internal/sync.runtime_SemacquireMutex", "sync/atomic.AddInt32", "(*internal/sync.Mutex).Unlock", "internal/race.ReleaseMerge", "(*internal/sync.Mutex).unlockSlow", "internal/sync.fatal", "internal/sync.runtime_Semrelease", "math.Float64bits"], unfollowed := true, recurses := true, apart := false }
def CrdtStatesSaid : Prop := crdtStatesRow.holds Try.pinned (OpenSpec.ofChange crdtStatesSpec)

/-- ITS FALSE NEIGHBOUR: 'it returns false'. Refute it at one input. -/
def crdtStatesWrong : ChangeSpec := { name := "crdtStates", fn := fun _ => fun
  | [d1, d2, d3, d4] => { results := [.lit (.bool false)], args := [d1, d2, d3, d4] }
  | _ => none }
def CrdtStatesWrongFalsely : Prop := crdtStatesRow.holds Try.pinned (OpenSpec.ofChange crdtStatesWrong)

/- THE SECOND FORM. 'bulk': how many values and letters a reading holds, each counted each time it is reached (what is shared counts as often as it is met; a slice's spare places count too). A statement '..UptoSaid' is the law's where the arguments, and the package variables that the reading takes, are together of bulk at most 1048576: NARROWER than '..Said'. Prove '..Said' where nothing that the law and all that it calls make is longer than what came in: it says more and counts as full. Else prove '..UptoSaid'. A law counts once. -/
mutual
def uptoBulk {H : Type} : DataW H → Nat
  | .lit (.string bytes) => bytes.length + 1
  | .lit _ => 1
  | .nil => 1
  | .ptr d => uptoBulk d + 1
  | .slice elems spare => uptoBulkAll elems + uptoBulkAll spare + 1
  | .agg parts => uptoBulkAll parts + 1
  | .iface _ d => uptoBulk d + 1
  | .map entries => uptoBulkEntries entries + 1
  | .held _ => 1
def uptoBulkAll {H : Type} : List (DataW H) → Nat
  | [] => 0
  | d :: r => uptoBulk d + uptoBulkAll r
def uptoBulkEntries {H : Type} : List (Lit × DataW H) → Nat
  | [] => 0
  | x :: r => uptoBulkEntry x + uptoBulkEntries r
def uptoBulkEntry {H : Type} : Lit × DataW H → Nat
  | (.string bytes, d) => bytes.length + uptoBulk d + 1
  | (_, d) => uptoBulk d + 1
 end
def uptoSmall : (H : Type) → List (DataW H) → Bool := fun _ ds => decide (uptoBulkAll ds ≤ 1048576)
def OpenSpec.upto (s : _root_.Go.ChangeSpec) : _root_.Go.OpenSpec := { _root_.Go.OpenSpec.ofChange s with cond := some uptoSmall }

/-- 'abacuslaw23.CrdtCounts', WHERE WHAT IT READS IS OF BULK AT MOST 1048576: true; the input reads as it did. -/
def crdtCountsUptoRow : OpenClaim := { program := "ytanbfejhhnhabaa", sum := "87af154d1f9eefc0fd08c00ea46d78a126f53556bf80fe67e6f94188e038cb77", func := "abacus/abacuslaw23.CrdtCounts", spec := "crdtCounts", inPlace := ["(*internal/sync.Mutex).Lock", "internal/race.Disable", "sync/atomic.CompareAndSwapInt32", "internal/race.Enable", "internal/race.Acquire", "(*internal/sync.Mutex).lockSlow", "internal/sync.runtime_canSpin", "internal/sync.runtime_doSpin", "internal/sync.throw", "internal/sync.runtime_nanotime", "internal/sync.runtime_SemacquireMutex", "sync/atomic.AddInt32", "(*internal/sync.Mutex).Unlock", "internal/race.ReleaseMerge", "(*internal/sync.Mutex).unlockSlow", "internal/sync.fatal", "internal/sync.runtime_Semrelease"], unfollowed := true, recurses := true, apart := false, narrowed := true }
def CrdtCountsUptoSaid : Prop := crdtCountsUptoRow.holds Try.pinned (OpenSpec.upto crdtCountsSpec)

/-- 'abacuslaw23.CrdtLattice', WHERE WHAT IT READS IS OF BULK AT MOST 1048576: true; the input reads as it did. -/
def crdtLatticeUptoRow : OpenClaim := { program := "ytanbfejhhnhabaa", sum := "87af154d1f9eefc0fd08c00ea46d78a126f53556bf80fe67e6f94188e038cb77", func := "abacus/abacuslaw23.CrdtLattice", spec := "crdtLattice", inPlace := ["(*internal/sync.Mutex).Lock", "internal/race.Disable", "sync/atomic.CompareAndSwapInt32", "internal/race.Enable", "internal/race.Acquire", "(*internal/sync.Mutex).lockSlow", "internal/sync.runtime_canSpin", "internal/sync.runtime_doSpin", "internal/sync.throw", "internal/sync.runtime_nanotime", "internal/sync.runtime_SemacquireMutex", "sync/atomic.AddInt32", "(*internal/sync.Mutex).Unlock", "internal/race.ReleaseMerge", "(*internal/sync.Mutex).unlockSlow", "internal/sync.fatal", "internal/sync.runtime_Semrelease"], unfollowed := true, recurses := true, apart := false, narrowed := true }
def CrdtLatticeUptoSaid : Prop := crdtLatticeUptoRow.holds Try.pinned (OpenSpec.upto crdtLatticeSpec)

/-- 'abacuslaw23.CrdtMeets', WHERE WHAT IT READS IS OF BULK AT MOST 1048576: true; the input reads as it did. -/
def crdtMeetsUptoRow : OpenClaim := { program := "ytanbfejhhnhabaa", sum := "87af154d1f9eefc0fd08c00ea46d78a126f53556bf80fe67e6f94188e038cb77", func := "abacus/abacuslaw23.CrdtMeets", spec := "crdtMeets", inPlace := ["(*internal/sync.Mutex).Lock", "internal/race.Disable", "sync/atomic.CompareAndSwapInt32", "internal/race.Enable", "internal/race.Acquire", "(*internal/sync.Mutex).lockSlow", "internal/sync.runtime_canSpin", "internal/sync.runtime_doSpin", "internal/sync.throw", "internal/sync.runtime_nanotime", "internal/sync.runtime_SemacquireMutex", "sync/atomic.AddInt32", "(*internal/sync.Mutex).Unlock", "internal/race.ReleaseMerge", "(*internal/sync.Mutex).unlockSlow", "internal/sync.fatal", "internal/sync.runtime_Semrelease"], unfollowed := true, recurses := true, apart := false, narrowed := true }
def CrdtMeetsUptoSaid : Prop := crdtMeetsUptoRow.holds Try.pinned (OpenSpec.upto crdtMeetsSpec)

/-- 'abacuslaw23.CrdtStates', WHERE WHAT IT READS IS OF BULK AT MOST 1048576: true; the input reads as it did. -/
def crdtStatesUptoRow : OpenClaim := { program := "ytanbfejhhnhabaa", sum := "87af154d1f9eefc0fd08c00ea46d78a126f53556bf80fe67e6f94188e038cb77", func := "abacus/abacuslaw23.CrdtStates", spec := "crdtStates", inPlace := ["(*internal/sync.Mutex).Lock", "internal/race.Disable", "sync/atomic.CompareAndSwapInt32", "internal/race.Enable", "internal/race.Acquire", "(*internal/sync.Mutex).lockSlow", "internal/sync.runtime_canSpin", "internal/sync.runtime_doSpin", "internal/sync.throw", "internal/sync.runtime_nanotime", "internal/sync.runtime_SemacquireMutex", "sync/atomic.AddInt32", "(*internal/sync.Mutex).Unlock", "internal/race.ReleaseMerge", "(*internal/sync.Mutex).unlockSlow", "internal/sync.fatal", "internal/sync.runtime_Semrelease", "math.Float64bits"], unfollowed := true, recurses := true, apart := false, narrowed := true }
def CrdtStatesUptoSaid : Prop := crdtStatesUptoRow.holds Try.pinned (OpenSpec.upto crdtStatesSpec)

end Rows
end Go.Proofs.Ytanbfejhhnhabaa
