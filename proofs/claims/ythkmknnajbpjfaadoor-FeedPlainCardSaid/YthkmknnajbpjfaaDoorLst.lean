/- The package feed: the later actions. -/
import Derived.Test.YthkmknnajbpjfaaDoorWait
namespace Go.Proofs.YthkmknnajbpjfaaDoor
open Go.RowKit
set_option maxRecDepth 100000
set_option linter.unusedVariables false
set_option linter.unusedSimpArgs false
set_option maxHeartbeats 4000000
theorem last_any (v a b : Int) (w : World) :
    Calls Tryd.prog 50 #[.int .u64 v, .agg #[.int .u64 a, .int .u64 b]] w fun e w' => e = .returned (.func (.func 55) #[] #[.pointer (some ⟨w.heap.size, 0, none⟩), .pointer (some ⟨w.heap.size + 1, 0, none⟩)]) ∧ (w.alloc (.cells #[.int .u64 v] 29)).alloc (.cells #[.int .u64 a, .int .u64 b] 45) = w' := by
  have hmf : ∀ (fn : Fn) (first cap : Array Value) (w : World), (Instr.makeFunc fn first cap).run Tryd.prog w = .ok (.func fn first cap) w := fun _ _ _ _ => rfl
  go_enter Tryd.func50, Tryd.ntmps50
  go_wp2
  go_ret
  exact ⟨rfl, rfl⟩
end Go.Proofs.YthkmknnajbpjfaaDoor
