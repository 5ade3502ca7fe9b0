/- The package delta: keys of counts and of changes. -/
import Derived.Test.YtmilnhicmeblhaaApp
import Derived.Test.YtmilnhicmeblhaaRows
namespace Go.Proofs.Ytmilnhicmeblhaa
open Go.RowKit
set_option maxRecDepth 100000
set_option linter.unusedVariables false
set_option linter.unusedSimpArgs false
set_option maxHeartbeats 2000000
abbrev ctV (s : ByteArray) (n : Int) : Value := .agg #[.string s, .int .u64 n]
abbrev chV (s : ByteArray) (n : Int) (r g : Bool) : Value := .agg #[.string s, .int .u64 n, .bool r, .bool g]
theorem countKey_any (s : ByteArray) (n : Int) (w : World) :
    Calls Try.prog 45 #[ctV s n] w fun e w' => e = .returned (.string s) ∧ w' = w.alloc (.cells #[.string s, .int .u64 n] 38) := by
  go_enter Try.func45, Try.ntmps45
  go_wp2
  go_ret
  exact ⟨rfl, rfl⟩
theorem changeKey_any (s : ByteArray) (n : Int) (r g : Bool) (w : World) :
    Calls Try.prog 59 #[chV s n r g] w fun e w' => e = .returned (.string s) ∧ w' = w.alloc (.cells #[.string s, .int .u64 n, .bool r, .bool g] 34) := by
  go_enter Try.func59, Try.ntmps59
  go_wp2
  go_ret
  exact ⟨rfl, rfl⟩
end Go.Proofs.Ytmilnhicmeblhaa
