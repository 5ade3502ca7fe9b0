/- The package feed: the two small questions of an operation. -/
import Derived.Test.YthkmknnajbpjfaaDoorAct
import Derived.Test.YthkmknnajbpjfaaDoorFeedM
namespace Go.Proofs.YthkmknnajbpjfaaDoor
open Go.RowKit
set_option maxRecDepth 100000
set_option linter.unusedVariables false
set_option linter.unusedSimpArgs false
set_option maxHeartbeats 1000000
theorem end_put (bp bf : Nat) (x : Int) (nx : Value) (at_ : Int) (dn : Bool) (aAt aX why : Int) (w : World) (p : Pd w bp bf 1 x nx at_ dn aAt aX why) :
    Calls Tryd.prog 31 #[.pointer (some ⟨bp, 0, none⟩)] w fun e w' => e = .returned (.tuple #[.int .i64 0, .int .u64 0, .int .i64 51]) ∧ w = w' := by
  have p0 := (p.b.cel 1 (v := .int .u8 1) rfl).c
  go_enter Tryd.func31, Tryd.ntmps31
  go_wp2
  go_ret3
  exact ⟨rfl, rfl⟩
theorem end_take (bp bf : Nat) (k x : Int) (nx : Value) (at_ : Int) (dn : Bool) (aAt aX why : Int) (w : World) (p : Pd w bp bf k x nx at_ dn aAt aX why) (hk : (k == 1) = false) :
    Calls Tryd.prog 31 #[.pointer (some ⟨bp, 0, none⟩)] w fun e w' => e = .returned (.tuple #[.int .i64 1, .int .u64 1, .int .i64 110]) ∧ w = w' := by
  have p0 := (p.b.cel 1 (v := .int .u8 k) rfl).c
  go_enter Tryd.func31, Tryd.ntmps31
  go_wp2
  go_ret3
  exact ⟨rfl, rfl⟩
theorem turn_any (bp bf bc bw size : Nat) (l : List Int) (k x : Int) (nx : Value) (at_ : Int) (dn : Bool) (aAt aX why : Int) (w : World) (h : Fd w bf bc bw size l) (p : Pd w bp bf k x nx at_ dn aAt aX why) (h0 : 0 ≤ at_) (c : Nat) (hc : c = M.tcell size at_) :
    Calls Tryd.prog 41 #[.pointer (some ⟨bp, 0, none⟩)] w fun e w' => e = .returned (.int .i64 c) ∧ ∃ n, w' = w.drewN n := by
  have p0 := (p.b.cel 0 (v := .pointer (some ⟨bf, 0, none⟩)) rfl).c
  have p4 := (p.b.cel 4 (v := .int .u64 at_) rfl).c
  have f1 := (h.f.cel 1 (v := .int .u64 size) rfl).c
  have hlo : (2 : Int) ≤ size := by have := h.lo; omega
  have hhi : (size : Int) ≤ 4096 := by have := h.hi; omega
  have hm0 : 0 ≤ at_ % (size : Int) := Int.emod_nonneg _ (by omega)
  have hm1 : at_ % (size : Int) < size := Int.emod_lt_of_pos _ (by omega)
  have hz : ¬ (size : Int) = 0 := by omega
  have HC := Lib.hid hc
  clear h p hc
  go_enter Tryd.func41, Tryd.ntmps41
  go_wp2
  go_quiet (fail)
  go_wp2
  go_ret

  exact ⟨congrArg (fun n => Ending.returned (.int .i64 n)) (show (2 + 2 * (at_ % (size : Int))) = (c : Int) by have := HC.out; unfold M.tcell at this; omega), _, rfl⟩
end Go.Proofs.YthkmknnajbpjfaaDoor
