/-
  No cell of these rows narrows 'for every input' (looked for: loops, veiled, ifaces, maps, wideKeys, modest, calm, conditions, laid).
  DERIVED. THE GIVEN ROWS OF THIS SEAT. 9 by the template 'for every input the law returns true; each argument reads behind the call as it read before'; 0 by the template 'total and deterministic' (their statements: YtmilnhicmeblhaaTotals.lean).
  GIVEN WITH THE SEED: the statements are not yours to turn. If you find one false, say at which input.
  Laid BY PROGRAM, IN A SANDBOX (cutbox-rows.mjs): the forced cells as the released guide's own fill.sh prints them over the translation 4a31c7bcbef886eb… (all of the seat's roots in one cut). By AI agents, Wed Nov 11 2026. No macro, syntax, notation, axiom, sorry.
-/
import Derived.Test.YtmilnhicmeblhaaChecked
import GoSem.Claim
import GoSem.ClaimJoined
import GoSem.ClaimMapViews
import Derived.JoinedTies
import Derived.KernelRfl
namespace Go.Proofs.Ytmilnhicmeblhaa
/- THE CELL 'sum', in the pinned program and in every row, IS THE sha256 OF THE DUMP (.gsa) THAT YtmilnhicmeblhaaProg.lean LOADS. Nothing in Lean hashes anything: it is a label: what it is worth is what the hold of that sum in a sandbox is worth. -/
noncomputable def Try.pinned : Pinned := { name := "ytmilnhicmeblhaa", sum := "4a31c7bcbef886eb323b9b0bd073758b0cfededbf11290d32c6dc1dc7b7b2b75", checked := Try.checked }
namespace Rows
def none {H : Type} : Left H := { results := [], args := [] }

/-- 'abacuslaw24.DeltaSums': WHATEVER THE INPUT: true; the input reads as it did. -/
def deltaSumsSpec : ChangeSpec := { name := "deltaSums", fn := fun _ => fun
  | [d] => { results := [.lit (.bool true)], args := [d] }
  | _ => none }
def deltaSumsRow : OpenClaim := { program := "ytmilnhicmeblhaa", sum := "4a31c7bcbef886eb323b9b0bd073758b0cfededbf11290d32c6dc1dc7b7b2b75", func := "abacus/abacuslaw24.DeltaSums", spec := "deltaSums", unfollowed := true, recurses := true, apart := false }
def DeltaSumsSaid : Prop := deltaSumsRow.holds Try.pinned (OpenSpec.ofChange deltaSumsSpec)

/-- ITS FALSE NEIGHBOUR: 'it returns false'. Refute it at one input. -/
def deltaSumsWrong : ChangeSpec := { name := "deltaSums", fn := fun _ => fun
  | [d] => { results := [.lit (.bool false)], args := [d] }
  | _ => none }
def DeltaSumsWrongFalsely : Prop := deltaSumsRow.holds Try.pinned (OpenSpec.ofChange deltaSumsWrong)

/-- 'abacuslaw24.DeltaBack': WHATEVER THE INPUT: true; the input reads as it did. -/
def deltaBackSpec : ChangeSpec := { name := "deltaBack", fn := fun _ => fun
  | [d1, d2] => { results := [.lit (.bool true)], args := [d1, d2] }
  | _ => none }
def deltaBackRow : OpenClaim := { program := "ytmilnhicmeblhaa", sum := "4a31c7bcbef886eb323b9b0bd073758b0cfededbf11290d32c6dc1dc7b7b2b75", func := "abacus/abacuslaw24.DeltaBack", spec := "deltaBack", unfollowed := true, recurses := true, apart := false }
def DeltaBackSaid : Prop := deltaBackRow.holds Try.pinned (OpenSpec.ofChange deltaBackSpec)

/-- ITS FALSE NEIGHBOUR: 'it returns false'. Refute it at one input. -/
def deltaBackWrong : ChangeSpec := { name := "deltaBack", fn := fun _ => fun
  | [d1, d2] => { results := [.lit (.bool false)], args := [d1, d2] }
  | _ => none }
def DeltaBackWrongFalsely : Prop := deltaBackRow.holds Try.pinned (OpenSpec.ofChange deltaBackWrong)

/-- 'abacuslaw24.DeltaTakes': WHATEVER THE INPUT: true; the input reads as it did. -/
def deltaTakesSpec : ChangeSpec := { name := "deltaTakes", fn := fun _ => fun
  | [d1, d2] => { results := [.lit (.bool true)], args := [d1, d2] }
  | _ => none }
def deltaTakesRow : OpenClaim := { program := "ytmilnhicmeblhaa", sum := "4a31c7bcbef886eb323b9b0bd073758b0cfededbf11290d32c6dc1dc7b7b2b75", func := "abacus/abacuslaw24.DeltaTakes", spec := "deltaTakes", unfollowed := true, recurses := true, apart := false }
def DeltaTakesSaid : Prop := deltaTakesRow.holds Try.pinned (OpenSpec.ofChange deltaTakesSpec)

/-- ITS FALSE NEIGHBOUR: 'it returns false'. Refute it at one input. -/
def deltaTakesWrong : ChangeSpec := { name := "deltaTakes", fn := fun _ => fun
  | [d1, d2] => { results := [.lit (.bool false)], args := [d1, d2] }
  | _ => none }
def DeltaTakesWrongFalsely : Prop := deltaTakesRow.holds Try.pinned (OpenSpec.ofChange deltaTakesWrong)

/-- 'abacuslaw24.DeltaOwn': WHATEVER THE INPUT: true; the input reads as it did. -/
def deltaOwnSpec : ChangeSpec := { name := "deltaOwn", fn := fun _ => fun
  | [d] => { results := [.lit (.bool true)], args := [d] }
  | _ => none }
def deltaOwnRow : OpenClaim := { program := "ytmilnhicmeblhaa", sum := "4a31c7bcbef886eb323b9b0bd073758b0cfededbf11290d32c6dc1dc7b7b2b75", func := "abacus/abacuslaw24.DeltaOwn", spec := "deltaOwn", unfollowed := true, recurses := true, apart := false }
def DeltaOwnSaid : Prop := deltaOwnRow.holds Try.pinned (OpenSpec.ofChange deltaOwnSpec)

/-- ITS FALSE NEIGHBOUR: 'it returns false'. Refute it at one input. -/
def deltaOwnWrong : ChangeSpec := { name := "deltaOwn", fn := fun _ => fun
  | [d] => { results := [.lit (.bool false)], args := [d] }
  | _ => none }
def DeltaOwnWrongFalsely : Prop := deltaOwnRow.holds Try.pinned (OpenSpec.ofChange deltaOwnWrong)

/-- 'abacuslaw24.DeltaDiffs': WHATEVER THE INPUT: true; the input reads as it did. -/
def deltaDiffsSpec : ChangeSpec := { name := "deltaDiffs", fn := fun _ => fun
  | [d1, d2, d3, d4] => { results := [.lit (.bool true)], args := [d1, d2, d3, d4] }
  | _ => none }
def deltaDiffsRow : OpenClaim := { program := "ytmilnhicmeblhaa", sum := "4a31c7bcbef886eb323b9b0bd073758b0cfededbf11290d32c6dc1dc7b7b2b75", func := "abacus/abacuslaw24.DeltaDiffs", spec := "deltaDiffs", unfollowed := true, recurses := true, apart := false }
def DeltaDiffsSaid : Prop := deltaDiffsRow.holds Try.pinned (OpenSpec.ofChange deltaDiffsSpec)

/-- ITS FALSE NEIGHBOUR: 'it returns false'. Refute it at one input. -/
def deltaDiffsWrong : ChangeSpec := { name := "deltaDiffs", fn := fun _ => fun
  | [d1, d2, d3, d4] => { results := [.lit (.bool false)], args := [d1, d2, d3, d4] }
  | _ => none }
def DeltaDiffsWrongFalsely : Prop := deltaDiffsRow.holds Try.pinned (OpenSpec.ofChange deltaDiffsWrong)

/-- 'abacuslaw24.DeltaJoins': WHATEVER THE INPUT: true; the input reads as it did. -/
def deltaJoinsSpec : ChangeSpec := { name := "deltaJoins", fn := fun _ => fun
  | [d1, d2, d3, d4] => { results := [.lit (.bool true)], args := [d1, d2, d3, d4] }
  | _ => none }
def deltaJoinsRow : OpenClaim := { program := "ytmilnhicmeblhaa", sum := "4a31c7bcbef886eb323b9b0bd073758b0cfededbf11290d32c6dc1dc7b7b2b75", func := "abacus/abacuslaw24.DeltaJoins", spec := "deltaJoins", unfollowed := true, recurses := true, apart := false }
def DeltaJoinsSaid : Prop := deltaJoinsRow.holds Try.pinned (OpenSpec.ofChange deltaJoinsSpec)

/-- ITS FALSE NEIGHBOUR: 'it returns false'. Refute it at one input. -/
def deltaJoinsWrong : ChangeSpec := { name := "deltaJoins", fn := fun _ => fun
  | [d1, d2, d3, d4] => { results := [.lit (.bool false)], args := [d1, d2, d3, d4] }
  | _ => none }
def DeltaJoinsWrongFalsely : Prop := deltaJoinsRow.holds Try.pinned (OpenSpec.ofChange deltaJoinsWrong)

/-- 'abacuslaw24.DeltaSends': WHATEVER THE INPUT: true; the input reads as it did. -/
def deltaSendsSpec : ChangeSpec := { name := "deltaSends", fn := fun _ => fun
  | [d1, d2] => { results := [.lit (.bool true)], args := [d1, d2] }
  | _ => none }
def deltaSendsRow : OpenClaim := { program := "ytmilnhicmeblhaa", sum := "4a31c7bcbef886eb323b9b0bd073758b0cfededbf11290d32c6dc1dc7b7b2b75", func := "abacus/abacuslaw24.DeltaSends", spec := "deltaSends", unfollowed := true, recurses := true, apart := false }
def DeltaSendsSaid : Prop := deltaSendsRow.holds Try.pinned (OpenSpec.ofChange deltaSendsSpec)

/-- ITS FALSE NEIGHBOUR: 'it returns false'. Refute it at one input. -/
def deltaSendsWrong : ChangeSpec := { name := "deltaSends", fn := fun _ => fun
  | [d1, d2] => { results := [.lit (.bool false)], args := [d1, d2] }
  | _ => none }
def DeltaSendsWrongFalsely : Prop := deltaSendsRow.holds Try.pinned (OpenSpec.ofChange deltaSendsWrong)

/-- 'abacuslaw24.DeltaNil': WHATEVER THE INPUT: true; the input reads as it did. -/
def deltaNilSpec : ChangeSpec := { name := "deltaNil", fn := fun _ => fun
  | [d1, d2, d3] => { results := [.lit (.bool true)], args := [d1, d2, d3] }
  | _ => none }
def deltaNilRow : OpenClaim := { program := "ytmilnhicmeblhaa", sum := "4a31c7bcbef886eb323b9b0bd073758b0cfededbf11290d32c6dc1dc7b7b2b75", func := "abacus/abacuslaw24.DeltaNil", spec := "deltaNil", unfollowed := true, recurses := true, apart := false }
def DeltaNilSaid : Prop := deltaNilRow.holds Try.pinned (OpenSpec.ofChange deltaNilSpec)

/-- ITS FALSE NEIGHBOUR: 'it returns false'. Refute it at one input. -/
def deltaNilWrong : ChangeSpec := { name := "deltaNil", fn := fun _ => fun
  | [d1, d2, d3] => { results := [.lit (.bool false)], args := [d1, d2, d3] }
  | _ => none }
def DeltaNilWrongFalsely : Prop := deltaNilRow.holds Try.pinned (OpenSpec.ofChange deltaNilWrong)

/-- 'abacuslaw24.DeltaOnce': WHATEVER THE INPUT: true; the input reads as it did. -/
def deltaOnceSpec : ChangeSpec := { name := "deltaOnce", fn := fun _ => fun
  | [d1, d2] => { results := [.lit (.bool true)], args := [d1, d2] }
  | _ => none }
def deltaOnceRow : OpenClaim := { program := "ytmilnhicmeblhaa", sum := "4a31c7bcbef886eb323b9b0bd073758b0cfededbf11290d32c6dc1dc7b7b2b75", func := "abacus/abacuslaw24.DeltaOnce", spec := "deltaOnce", unfollowed := true, recurses := true, apart := false }
def DeltaOnceSaid : Prop := deltaOnceRow.holds Try.pinned (OpenSpec.ofChange deltaOnceSpec)

/-- ITS FALSE NEIGHBOUR: 'it returns false'. Refute it at one input. -/
def deltaOnceWrong : ChangeSpec := { name := "deltaOnce", fn := fun _ => fun
  | [d1, d2] => { results := [.lit (.bool false)], args := [d1, d2] }
  | _ => none }
def DeltaOnceWrongFalsely : Prop := deltaOnceRow.holds Try.pinned (OpenSpec.ofChange deltaOnceWrong)

/- THE SECOND FORM. 'bulk': how many values and letters a reading holds, each counted each time it is reached (what is shared counts as often as it is met; a slice's spare places count too). A statement '..UptoSaid' is the law's where the arguments, and the package variables that the reading takes, are together of bulk at most 1048576: NARROWER than '..Said'. Prove '..Said' where nothing that the law and all that it calls make is longer than what came in: it says more and counts as full. Else prove '..UptoSaid'. A law counts once. -/
mutual
def uptoBulk {H : Type} : DataW H → Nat
  | .lit (.string bytes) => bytes.length + 1
  | .lit _ => 1
  | .nil => 1
  | .ptr d => uptoBulk d + 1
  | .slice elems spare => uptoBulkAll elems + uptoBulkAll spare + 1
  | .agg parts => uptoBulkAll parts + 1
  | .iface _ d => uptoBulk d + 1
  | .map entries => uptoBulkEntries entries + 1
  | .held _ => 1
def uptoBulkAll {H : Type} : List (DataW H) → Nat
  | [] => 0
  | d :: r => uptoBulk d + uptoBulkAll r
def uptoBulkEntries {H : Type} : List (Lit × DataW H) → Nat
  | [] => 0
  | x :: r => uptoBulkEntry x + uptoBulkEntries r
def uptoBulkEntry {H : Type} : Lit × DataW H → Nat
  | (.string bytes, d) => bytes.length + uptoBulk d + 1
  | (_, d) => uptoBulk d + 1
 end
def uptoSmall : (H : Type) → List (DataW H) → Bool := fun _ ds => decide (uptoBulkAll ds ≤ 1048576)
def OpenSpec.upto (s : _root_.Go.ChangeSpec) : _root_.Go.OpenSpec := { _root_.Go.OpenSpec.ofChange s with cond := some uptoSmall }

/-- 'abacuslaw24.DeltaSums', WHERE WHAT IT READS IS OF BULK AT MOST 1048576: true; the input reads as it did. -/
def deltaSumsUptoRow : OpenClaim := { program := "ytmilnhicmeblhaa", sum := "4a31c7bcbef886eb323b9b0bd073758b0cfededbf11290d32c6dc1dc7b7b2b75", func := "abacus/abacuslaw24.DeltaSums", spec := "deltaSums", unfollowed := true, recurses := true, apart := false, narrowed := true }
def DeltaSumsUptoSaid : Prop := deltaSumsUptoRow.holds Try.pinned (OpenSpec.upto deltaSumsSpec)

/-- 'abacuslaw24.DeltaBack', WHERE WHAT IT READS IS OF BULK AT MOST 1048576: true; the input reads as it did. -/
def deltaBackUptoRow : OpenClaim := { program := "ytmilnhicmeblhaa", sum := "4a31c7bcbef886eb323b9b0bd073758b0cfededbf11290d32c6dc1dc7b7b2b75", func := "abacus/abacuslaw24.DeltaBack", spec := "deltaBack", unfollowed := true, recurses := true, apart := false, narrowed := true }
def DeltaBackUptoSaid : Prop := deltaBackUptoRow.holds Try.pinned (OpenSpec.upto deltaBackSpec)

/-- 'abacuslaw24.DeltaTakes', WHERE WHAT IT READS IS OF BULK AT MOST 1048576: true; the input reads as it did. -/
def deltaTakesUptoRow : OpenClaim := { program := "ytmilnhicmeblhaa", sum := "4a31c7bcbef886eb323b9b0bd073758b0cfededbf11290d32c6dc1dc7b7b2b75", func := "abacus/abacuslaw24.DeltaTakes", spec := "deltaTakes", unfollowed := true, recurses := true, apart := false, narrowed := true }
def DeltaTakesUptoSaid : Prop := deltaTakesUptoRow.holds Try.pinned (OpenSpec.upto deltaTakesSpec)

/-- 'abacuslaw24.DeltaOwn', WHERE WHAT IT READS IS OF BULK AT MOST 1048576: true; the input reads as it did. -/
def deltaOwnUptoRow : OpenClaim := { program := "ytmilnhicmeblhaa", sum := "4a31c7bcbef886eb323b9b0bd073758b0cfededbf11290d32c6dc1dc7b7b2b75", func := "abacus/abacuslaw24.DeltaOwn", spec := "deltaOwn", unfollowed := true, recurses := true, apart := false, narrowed := true }
def DeltaOwnUptoSaid : Prop := deltaOwnUptoRow.holds Try.pinned (OpenSpec.upto deltaOwnSpec)

/-- 'abacuslaw24.DeltaDiffs', WHERE WHAT IT READS IS OF BULK AT MOST 1048576: true; the input reads as it did. -/
def deltaDiffsUptoRow : OpenClaim := { program := "ytmilnhicmeblhaa", sum := "4a31c7bcbef886eb323b9b0bd073758b0cfededbf11290d32c6dc1dc7b7b2b75", func := "abacus/abacuslaw24.DeltaDiffs", spec := "deltaDiffs", unfollowed := true, recurses := true, apart := false, narrowed := true }
def DeltaDiffsUptoSaid : Prop := deltaDiffsUptoRow.holds Try.pinned (OpenSpec.upto deltaDiffsSpec)

/-- 'abacuslaw24.DeltaJoins', WHERE WHAT IT READS IS OF BULK AT MOST 1048576: true; the input reads as it did. -/
def deltaJoinsUptoRow : OpenClaim := { program := "ytmilnhicmeblhaa", sum := "4a31c7bcbef886eb323b9b0bd073758b0cfededbf11290d32c6dc1dc7b7b2b75", func := "abacus/abacuslaw24.DeltaJoins", spec := "deltaJoins", unfollowed := true, recurses := true, apart := false, narrowed := true }
def DeltaJoinsUptoSaid : Prop := deltaJoinsUptoRow.holds Try.pinned (OpenSpec.upto deltaJoinsSpec)

/-- 'abacuslaw24.DeltaSends', WHERE WHAT IT READS IS OF BULK AT MOST 1048576: true; the input reads as it did. -/
def deltaSendsUptoRow : OpenClaim := { program := "ytmilnhicmeblhaa", sum := "4a31c7bcbef886eb323b9b0bd073758b0cfededbf11290d32c6dc1dc7b7b2b75", func := "abacus/abacuslaw24.DeltaSends", spec := "deltaSends", unfollowed := true, recurses := true, apart := false, narrowed := true }
def DeltaSendsUptoSaid : Prop := deltaSendsUptoRow.holds Try.pinned (OpenSpec.upto deltaSendsSpec)

/-- 'abacuslaw24.DeltaNil', WHERE WHAT IT READS IS OF BULK AT MOST 1048576: true; the input reads as it did. -/
def deltaNilUptoRow : OpenClaim := { program := "ytmilnhicmeblhaa", sum := "4a31c7bcbef886eb323b9b0bd073758b0cfededbf11290d32c6dc1dc7b7b2b75", func := "abacus/abacuslaw24.DeltaNil", spec := "deltaNil", unfollowed := true, recurses := true, apart := false, narrowed := true }
def DeltaNilUptoSaid : Prop := deltaNilUptoRow.holds Try.pinned (OpenSpec.upto deltaNilSpec)

/-- 'abacuslaw24.DeltaOnce', WHERE WHAT IT READS IS OF BULK AT MOST 1048576: true; the input reads as it did. -/
def deltaOnceUptoRow : OpenClaim := { program := "ytmilnhicmeblhaa", sum := "4a31c7bcbef886eb323b9b0bd073758b0cfededbf11290d32c6dc1dc7b7b2b75", func := "abacus/abacuslaw24.DeltaOnce", spec := "deltaOnce", unfollowed := true, recurses := true, apart := false, narrowed := true }
def DeltaOnceUptoSaid : Prop := deltaOnceUptoRow.holds Try.pinned (OpenSpec.upto deltaOnceSpec)

end Rows
end Go.Proofs.Ytmilnhicmeblhaa
