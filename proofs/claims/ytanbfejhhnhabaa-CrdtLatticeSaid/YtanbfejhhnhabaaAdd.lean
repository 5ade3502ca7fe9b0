/- The package crdt: Add and Sub. -/
import Derived.Test.YtanbfejhhnhabaaCount
namespace Go.Proofs.Ytanbfejhhnhabaa
open Go.RowKit Go.Maps Go.Sort
set_option maxRecDepth 100000
set_option linter.unusedVariables false
set_option linter.unusedSimpArgs false
set_option maxHeartbeats 8000000
theorem add_any (bc b : Nat) (nm : ByteArray) (l : List Nd) (n : Int) (w : World) (h : CT w bc b 0 nm l) (h0 : 0 ≤ n) (h1 : n < 18446744073709551616) :
    Calls Try.prog 12 #[.pointer (some ⟨bc, 0, none⟩), .int .u64 n] w (CountPost bc b l nm n 0 w) := by
  have H := Lib.hid h
  clear h
  go_enter Try.func12, Try.ntmps12
  go_wp2_with ((go_at_call 37); (with_reducible refine (count_any bc b nm l n 0 _ H.out h0 h1 (by omega) (by omega)).mono ?_); rintro e w1 ⟨rfl, hC, hF⟩)
  go_ret
  exact ⟨rfl, hC, hF⟩
theorem sub_any (bc b : Nat) (nm : ByteArray) (l : List Nd) (n : Int) (w : World) (h : CT w bc b 0 nm l) (h0 : 0 ≤ n) (h1 : n < 18446744073709551616) :
    Calls Try.prog 13 #[.pointer (some ⟨bc, 0, none⟩), .int .u64 n] w (CountPost bc b l nm 0 n w) := by
  have H := Lib.hid h
  clear h
  go_enter Try.func13, Try.ntmps13
  go_wp2_with ((go_at_call 37); (with_reducible refine (count_any bc b nm l 0 n _ H.out (by omega) (by omega) h0 h1).mono ?_); rintro e w1 ⟨rfl, hC, hF⟩)
  go_ret
  exact ⟨rfl, hC, hF⟩
end Go.Proofs.Ytanbfejhhnhabaa
