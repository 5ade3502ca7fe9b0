/-
  NARROWER THAN 'FOR EVERY INPUT', by the rows' own cells (each row's printed sentence says how): OnceSteps: laid · OnceOnce: laid · OnceGrows: laid · OnceGets: laid.
  DERIVED. THE GIVEN ROWS OF THIS SEAT. 4 by the template 'for every input the law returns true; each argument reads behind the call as it read before'; 0 by the template 'total and deterministic' (their statements: YtbbnafnnbhbbcaaDoorTotals.lean).
  GIVEN WITH THE SEED: the statements are not yours to turn. If you find one false, say at which input.
  Laid BY PROGRAM, IN A SANDBOX (cutbox-rows.mjs): the forced cells as the released guide's own fill.sh prints them over the translation e2ae1ac0d3738425… (all of the seat's roots in one cut). By AI agents, Wed Nov 11 2026. No macro, syntax, notation, axiom, sorry.
-/
import Derived.Test.YtbbnafnnbhbbcaaDoorChecked
import GoSem.Claim
import GoSem.ClaimJoined
import GoSem.ClaimMapViews
import Derived.JoinedTies
import Derived.KernelRfl
namespace Go.Proofs.YtbbnafnnbhbbcaaDoor
/- THE CELL 'sum', in the pinned program and in every row, IS THE sha256 OF THE DUMP (.gsa) THAT YtbbnafnnbhbbcaaDoorProg.lean LOADS. Nothing in Lean hashes anything: it is a label: what it is worth is what the hold of that sum in a sandbox is worth. -/
noncomputable def Tryd.pinned : Pinned := { name := "ytbbnafnnbhbbcaadoor", sum := "e2ae1ac0d3738425881d461078f42df9aa7801af3279bae5a78c9f4da8c1b7a6", checked := Tryd.checked }
namespace Rows
def none {H : Type} : Left H := { results := [], args := [] }

/- WHAT THE LISTED PACKAGE-LEVEL VARIABLES READ AS WHEN THE CALL BEGINS. Each datum BY PROGRAM (the guide's laid-datum.mjs) off the statement by which the dump's own 'gosem.cut.vars' lays the variable. In a bare row this is a premise. The card (YtbbnafnnbhbbcaaDoorCards.lean) ties it to the program's text. -/
def laid_abacus_cells_uses {H : Type} : DataW H := .agg [.agg [.lit (.bool false), .lit (.bool false)], .agg [.lit (.bool false), .lit (.bool false)], .agg [.lit (.bool false), .lit (.bool true)], .agg [.lit (.bool false), .lit (.bool true)], .agg [.lit (.bool false), .lit (.bool true)], .agg [.lit (.bool true), .lit (.bool true)]]

/-- 'abacuslaw13.OnceSteps': WHATEVER THE INPUT: true; the input reads as it did. -/
def onceStepsSpec : ChangeSpec := { name := "onceSteps", fn := fun _ => fun
  | [d1, d2] => { results := [.lit (.bool true)], args := [d1, d2] }
  | _ => none }
def onceStepsRow : OpenClaim := { program := "ytbbnafnnbhbbcaadoor", sum := "e2ae1ac0d3738425881d461078f42df9aa7801af3279bae5a78c9f4da8c1b7a6", func := "abacus/abacuslaw13.OnceSteps", spec := "onceSteps", inPlace := ["sync/atomic.LoadUint64", "sync/atomic.SwapUint64", "sync/atomic.AddUint64", "sync/atomic.CompareAndSwapUint64", "sync/atomic.StorePointer", "sync/atomic.LoadUint32", "(*internal/sync.Mutex).Lock", "internal/race.Disable", "sync/atomic.CompareAndSwapInt32", "internal/race.Enable", "internal/race.Acquire", "(*internal/sync.Mutex).lockSlow", "internal/sync.runtime_canSpin", "internal/sync.runtime_doSpin", "internal/sync.throw", "internal/sync.runtime_nanotime", "internal/sync.runtime_SemacquireMutex", "sync/atomic.AddInt32", "(*internal/sync.Mutex).Unlock", "internal/race.ReleaseMerge", "(*internal/sync.Mutex).unlockSlow", "internal/sync.fatal", "internal/sync.runtime_Semrelease", "sync/atomic.StoreUint32", "sync/atomic.LoadPointer"], unfollowed := true, recurses := true, named := ["abacus/cells.uses"], apart := false, laid := [("abacus/cells.uses", laid_abacus_cells_uses)] }
def OnceStepsSaid : Prop := onceStepsRow.holds Tryd.pinned (OpenSpec.ofChange onceStepsSpec)

/-- ITS FALSE NEIGHBOUR: 'it returns false'. Refute it at one input. -/
def onceStepsWrong : ChangeSpec := { name := "onceSteps", fn := fun _ => fun
  | [d1, d2] => { results := [.lit (.bool false)], args := [d1, d2] }
  | _ => none }
def OnceStepsWrongFalsely : Prop := onceStepsRow.holds Tryd.pinned (OpenSpec.ofChange onceStepsWrong)

/-- 'abacuslaw13.OnceOnce': WHATEVER THE INPUT: true; the input reads as it did. -/
def onceOnceSpec : ChangeSpec := { name := "onceOnce", fn := fun _ => fun
  | [d1, d2, d3] => { results := [.lit (.bool true)], args := [d1, d2, d3] }
  | _ => none }
def onceOnceRow : OpenClaim := { program := "ytbbnafnnbhbbcaadoor", sum := "e2ae1ac0d3738425881d461078f42df9aa7801af3279bae5a78c9f4da8c1b7a6", func := "abacus/abacuslaw13.OnceOnce", spec := "onceOnce", inPlace := ["sync/atomic.LoadUint64", "sync/atomic.SwapUint64", "sync/atomic.AddUint64", "sync/atomic.CompareAndSwapUint64", "sync/atomic.StorePointer", "sync/atomic.LoadUint32", "(*internal/sync.Mutex).Lock", "internal/race.Disable", "sync/atomic.CompareAndSwapInt32", "internal/race.Enable", "internal/race.Acquire", "(*internal/sync.Mutex).lockSlow", "internal/sync.runtime_canSpin", "internal/sync.runtime_doSpin", "internal/sync.throw", "internal/sync.runtime_nanotime", "internal/sync.runtime_SemacquireMutex", "sync/atomic.AddInt32", "(*internal/sync.Mutex).Unlock", "internal/race.ReleaseMerge", "(*internal/sync.Mutex).unlockSlow", "internal/sync.fatal", "internal/sync.runtime_Semrelease", "sync/atomic.StoreUint32", "sync/atomic.LoadPointer"], unfollowed := true, recurses := true, named := ["abacus/cells.uses"], apart := false, laid := [("abacus/cells.uses", laid_abacus_cells_uses)] }
def OnceOnceSaid : Prop := onceOnceRow.holds Tryd.pinned (OpenSpec.ofChange onceOnceSpec)

/-- ITS FALSE NEIGHBOUR: 'it returns false'. Refute it at one input. -/
def onceOnceWrong : ChangeSpec := { name := "onceOnce", fn := fun _ => fun
  | [d1, d2, d3] => { results := [.lit (.bool false)], args := [d1, d2, d3] }
  | _ => none }
def OnceOnceWrongFalsely : Prop := onceOnceRow.holds Tryd.pinned (OpenSpec.ofChange onceOnceWrong)

/-- 'abacuslaw13.OnceGrows': WHATEVER THE INPUT: true; the input reads as it did. -/
def onceGrowsSpec : ChangeSpec := { name := "onceGrows", fn := fun _ => fun
  | [d] => { results := [.lit (.bool true)], args := [d] }
  | _ => none }
def onceGrowsRow : OpenClaim := { program := "ytbbnafnnbhbbcaadoor", sum := "e2ae1ac0d3738425881d461078f42df9aa7801af3279bae5a78c9f4da8c1b7a6", func := "abacus/abacuslaw13.OnceGrows", spec := "onceGrows", inPlace := ["sync/atomic.LoadUint64", "sync/atomic.SwapUint64", "sync/atomic.AddUint64", "sync/atomic.CompareAndSwapUint64", "sync/atomic.StorePointer", "sync/atomic.LoadUint32", "(*internal/sync.Mutex).Lock", "internal/race.Disable", "sync/atomic.CompareAndSwapInt32", "internal/race.Enable", "internal/race.Acquire", "(*internal/sync.Mutex).lockSlow", "internal/sync.runtime_canSpin", "internal/sync.runtime_doSpin", "internal/sync.throw", "internal/sync.runtime_nanotime", "internal/sync.runtime_SemacquireMutex", "sync/atomic.AddInt32", "(*internal/sync.Mutex).Unlock", "internal/race.ReleaseMerge", "(*internal/sync.Mutex).unlockSlow", "internal/sync.fatal", "internal/sync.runtime_Semrelease", "sync/atomic.StoreUint32", "sync/atomic.LoadPointer"], unfollowed := true, recurses := true, named := ["abacus/cells.uses"], apart := false, laid := [("abacus/cells.uses", laid_abacus_cells_uses)] }
def OnceGrowsSaid : Prop := onceGrowsRow.holds Tryd.pinned (OpenSpec.ofChange onceGrowsSpec)

/-- ITS FALSE NEIGHBOUR: 'it returns false'. Refute it at one input. -/
def onceGrowsWrong : ChangeSpec := { name := "onceGrows", fn := fun _ => fun
  | [d] => { results := [.lit (.bool false)], args := [d] }
  | _ => none }
def OnceGrowsWrongFalsely : Prop := onceGrowsRow.holds Tryd.pinned (OpenSpec.ofChange onceGrowsWrong)

/-- 'abacuslaw13.OnceGets': WHATEVER THE INPUT: true; the input reads as it did. -/
def onceGetsSpec : ChangeSpec := { name := "onceGets", fn := fun _ => fun
  | [d] => { results := [.lit (.bool true)], args := [d] }
  | _ => none }
def onceGetsRow : OpenClaim := { program := "ytbbnafnnbhbbcaadoor", sum := "e2ae1ac0d3738425881d461078f42df9aa7801af3279bae5a78c9f4da8c1b7a6", func := "abacus/abacuslaw13.OnceGets", spec := "onceGets", inPlace := ["sync/atomic.LoadUint64", "sync/atomic.SwapUint64", "sync/atomic.AddUint64", "sync/atomic.CompareAndSwapUint64", "sync/atomic.StorePointer", "sync/atomic.LoadUint32", "(*internal/sync.Mutex).Lock", "internal/race.Disable", "sync/atomic.CompareAndSwapInt32", "internal/race.Enable", "internal/race.Acquire", "(*internal/sync.Mutex).lockSlow", "internal/sync.runtime_canSpin", "internal/sync.runtime_doSpin", "internal/sync.throw", "internal/sync.runtime_nanotime", "internal/sync.runtime_SemacquireMutex", "sync/atomic.AddInt32", "(*internal/sync.Mutex).Unlock", "internal/race.ReleaseMerge", "(*internal/sync.Mutex).unlockSlow", "internal/sync.fatal", "internal/sync.runtime_Semrelease", "sync/atomic.StoreUint32", "sync/atomic.LoadPointer", "sync/atomic.StoreUint64"], unfollowed := true, recurses := true, named := ["abacus/cells.uses"], apart := false, laid := [("abacus/cells.uses", laid_abacus_cells_uses)] }
def OnceGetsSaid : Prop := onceGetsRow.holds Tryd.pinned (OpenSpec.ofChange onceGetsSpec)

/-- ITS FALSE NEIGHBOUR: 'it returns false'. Refute it at one input. -/
def onceGetsWrong : ChangeSpec := { name := "onceGets", fn := fun _ => fun
  | [d] => { results := [.lit (.bool false)], args := [d] }
  | _ => none }
def OnceGetsWrongFalsely : Prop := onceGetsRow.holds Tryd.pinned (OpenSpec.ofChange onceGetsWrong)

/- THE SECOND FORM. 'bulk': how many values and letters a reading holds, each counted each time it is reached (what is shared counts as often as it is met; a slice's spare places count too). A statement '..UptoSaid' is the law's where the arguments, and the package variables that the reading takes, are together of bulk at most 1048576: NARROWER than '..Said'. Prove '..Said' where nothing that the law and all that it calls make is longer than what came in: it says more and counts as full. Else prove '..UptoSaid'. A law counts once. -/
mutual
def uptoBulk {H : Type} : DataW H → Nat
  | .lit (.string bytes) => bytes.length + 1
  | .lit _ => 1
  | .nil => 1
  | .ptr d => uptoBulk d + 1
  | .slice elems spare => uptoBulkAll elems + uptoBulkAll spare + 1
  | .agg parts => uptoBulkAll parts + 1
  | .iface _ d => uptoBulk d + 1
  | .map entries => uptoBulkEntries entries + 1
  | .held _ => 1
def uptoBulkAll {H : Type} : List (DataW H) → Nat
  | [] => 0
  | d :: r => uptoBulk d + uptoBulkAll r
def uptoBulkEntries {H : Type} : List (Lit × DataW H) → Nat
  | [] => 0
  | x :: r => uptoBulkEntry x + uptoBulkEntries r
def uptoBulkEntry {H : Type} : Lit × DataW H → Nat
  | (.string bytes, d) => bytes.length + uptoBulk d + 1
  | (_, d) => uptoBulk d + 1
 end
def uptoSmall : (H : Type) → List (DataW H) → Bool := fun _ ds => decide (uptoBulkAll ds ≤ 1048576)
def OpenSpec.upto (s : _root_.Go.ChangeSpec) : _root_.Go.OpenSpec := { _root_.Go.OpenSpec.ofChange s with cond := some uptoSmall }

/-- 'abacuslaw13.OnceSteps', WHERE WHAT IT READS IS OF BULK AT MOST 1048576: true; the input reads as it did. -/
def onceStepsUptoRow : OpenClaim := { program := "ytbbnafnnbhbbcaadoor", sum := "e2ae1ac0d3738425881d461078f42df9aa7801af3279bae5a78c9f4da8c1b7a6", func := "abacus/abacuslaw13.OnceSteps", spec := "onceSteps", inPlace := ["sync/atomic.LoadUint64", "sync/atomic.SwapUint64", "sync/atomic.AddUint64", "sync/atomic.CompareAndSwapUint64", "sync/atomic.StorePointer", "sync/atomic.LoadUint32", "(*internal/sync.Mutex).Lock", "internal/race.Disable", "sync/atomic.CompareAndSwapInt32", "internal/race.Enable", "internal/race.Acquire", "(*internal/sync.Mutex).lockSlow", "internal/sync.runtime_canSpin", "internal/sync.runtime_doSpin", "internal/sync.throw", "internal/sync.runtime_nanotime", "internal/sync.runtime_SemacquireMutex", "sync/atomic.AddInt32", "(*internal/sync.Mutex).Unlock", "internal/race.ReleaseMerge", "(*internal/sync.Mutex).unlockSlow", "internal/sync.fatal", "internal/sync.runtime_Semrelease", "sync/atomic.StoreUint32", "sync/atomic.LoadPointer"], unfollowed := true, recurses := true, named := ["abacus/cells.uses"], apart := false, laid := [("abacus/cells.uses", laid_abacus_cells_uses)], narrowed := true }
def OnceStepsUptoSaid : Prop := onceStepsUptoRow.holds Tryd.pinned (OpenSpec.upto onceStepsSpec)

/-- 'abacuslaw13.OnceOnce', WHERE WHAT IT READS IS OF BULK AT MOST 1048576: true; the input reads as it did. -/
def onceOnceUptoRow : OpenClaim := { program := "ytbbnafnnbhbbcaadoor", sum := "e2ae1ac0d3738425881d461078f42df9aa7801af3279bae5a78c9f4da8c1b7a6", func := "abacus/abacuslaw13.OnceOnce", spec := "onceOnce", inPlace := ["sync/atomic.LoadUint64", "sync/atomic.SwapUint64", "sync/atomic.AddUint64", "sync/atomic.CompareAndSwapUint64", "sync/atomic.StorePointer", "sync/atomic.LoadUint32", "(*internal/sync.Mutex).Lock", "internal/race.Disable", "sync/atomic.CompareAndSwapInt32", "internal/race.Enable", "internal/race.Acquire", "(*internal/sync.Mutex).lockSlow", "internal/sync.runtime_canSpin", "internal/sync.runtime_doSpin", "internal/sync.throw", "internal/sync.runtime_nanotime", "internal/sync.runtime_SemacquireMutex", "sync/atomic.AddInt32", "(*internal/sync.Mutex).Unlock", "internal/race.ReleaseMerge", "(*internal/sync.Mutex).unlockSlow", "internal/sync.fatal", "internal/sync.runtime_Semrelease", "sync/atomic.StoreUint32", "sync/atomic.LoadPointer"], unfollowed := true, recurses := true, named := ["abacus/cells.uses"], apart := false, laid := [("abacus/cells.uses", laid_abacus_cells_uses)], narrowed := true }
def OnceOnceUptoSaid : Prop := onceOnceUptoRow.holds Tryd.pinned (OpenSpec.upto onceOnceSpec)

/-- 'abacuslaw13.OnceGrows', WHERE WHAT IT READS IS OF BULK AT MOST 1048576: true; the input reads as it did. -/
def onceGrowsUptoRow : OpenClaim := { program := "ytbbnafnnbhbbcaadoor", sum := "e2ae1ac0d3738425881d461078f42df9aa7801af3279bae5a78c9f4da8c1b7a6", func := "abacus/abacuslaw13.OnceGrows", spec := "onceGrows", inPlace := ["sync/atomic.LoadUint64", "sync/atomic.SwapUint64", "sync/atomic.AddUint64", "sync/atomic.CompareAndSwapUint64", "sync/atomic.StorePointer", "sync/atomic.LoadUint32", "(*internal/sync.Mutex).Lock", "internal/race.Disable", "sync/atomic.CompareAndSwapInt32", "internal/race.Enable", "internal/race.Acquire", "(*internal/sync.Mutex).lockSlow", "internal/sync.runtime_canSpin", "internal/sync.runtime_doSpin", "internal/sync.throw", "internal/sync.runtime_nanotime", "internal/sync.runtime_SemacquireMutex", "sync/atomic.AddInt32", "(*internal/sync.Mutex).Unlock", "internal/race.ReleaseMerge", "(*internal/sync.Mutex).unlockSlow", "internal/sync.fatal", "internal/sync.runtime_Semrelease", "sync/atomic.StoreUint32", "sync/atomic.LoadPointer"], unfollowed := true, recurses := true, named := ["abacus/cells.uses"], apart := false, laid := [("abacus/cells.uses", laid_abacus_cells_uses)], narrowed := true }
def OnceGrowsUptoSaid : Prop := onceGrowsUptoRow.holds Tryd.pinned (OpenSpec.upto onceGrowsSpec)

/-- 'abacuslaw13.OnceGets', WHERE WHAT IT READS IS OF BULK AT MOST 1048576: true; the input reads as it did. -/
def onceGetsUptoRow : OpenClaim := { program := "ytbbnafnnbhbbcaadoor", sum := "e2ae1ac0d3738425881d461078f42df9aa7801af3279bae5a78c9f4da8c1b7a6", func := "abacus/abacuslaw13.OnceGets", spec := "onceGets", inPlace := ["sync/atomic.LoadUint64", "sync/atomic.SwapUint64", "sync/atomic.AddUint64", "sync/atomic.CompareAndSwapUint64", "sync/atomic.StorePointer", "sync/atomic.LoadUint32", "(*internal/sync.Mutex).Lock", "internal/race.Disable", "sync/atomic.CompareAndSwapInt32", "internal/race.Enable", "internal/race.Acquire", "(*internal/sync.Mutex).lockSlow", "internal/sync.runtime_canSpin", "internal/sync.runtime_doSpin", "internal/sync.throw", "internal/sync.runtime_nanotime", "internal/sync.runtime_SemacquireMutex", "sync/atomic.AddInt32", "(*internal/sync.Mutex).Unlock", "internal/race.ReleaseMerge", "(*internal/sync.Mutex).unlockSlow", "internal/sync.fatal", "internal/sync.runtime_Semrelease", "sync/atomic.StoreUint32", "sync/atomic.LoadPointer", "sync/atomic.StoreUint64"], unfollowed := true, recurses := true, named := ["abacus/cells.uses"], apart := false, laid := [("abacus/cells.uses", laid_abacus_cells_uses)], narrowed := true }
def OnceGetsUptoSaid : Prop := onceGetsUptoRow.holds Tryd.pinned (OpenSpec.upto onceGetsSpec)

end Rows
end Go.Proofs.YtbbnafnnbhbbcaaDoor
