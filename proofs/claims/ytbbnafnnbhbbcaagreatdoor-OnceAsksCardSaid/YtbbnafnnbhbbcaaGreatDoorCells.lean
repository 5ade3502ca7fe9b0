/- The package cells: what each action on a word does to memory. -/
import Derived.Test.YtbbnafnnbhbbcaaGreatDoorRows
import Derived.Test.YtbbnafnnbhbbcaaGreatDoorFr
import Derived.Laws.LoneSync
import Derived.Lib.LaidTab
namespace Go.Proofs.YtbbnafnnbhbbcaaGreatDoor
open Go.RowKit

theorem at_load {a : Addr} {x : Int} {w : World} (hc : w.cell? a = some (.int .u64 x)) :
    (callFunc 70 #[.pointer (some a)]).run Tryz.prog w = .ok (.value (.int .u64 x)) w :=
  run_call_load Tryz.func70 (by kernel_rfl) (by kernel_rfl) (by kernel_rfl) .u64 (by kernel_rfl) hc
theorem at_cas_hit {a : Addr} {x y : Int} {w : World} (hc : w.cell? a = some (.int .u64 x)) (hz : w.frozen? a = false) :
    (callFunc 109 #[.pointer (some a), .int .u64 x, .int .u64 y]).run Tryz.prog w = .ok (.value (.bool true)) (w.setCell a (.int .u64 y)) :=
  run_call_cas_hit Tryz.func109 (by kernel_rfl) (by kernel_rfl) (by kernel_rfl) .u64 (by kernel_rfl) hc hz
theorem at_cas_miss {a : Addr} {x o y : Int} {w : World} (hc : w.cell? a = some (.int .u64 x)) (hz : w.frozen? a = false) (hne : ¬ x = o) :
    (callFunc 109 #[.pointer (some a), .int .u64 o, .int .u64 y]).run Tryz.prog w = .ok (.value (.bool false)) w :=
  run_call_cas_miss Tryz.func109 (by kernel_rfl) (by kernel_rfl) (by kernel_rfl) .u64 (by kernel_rfl) hc hz hne
theorem at_swap {a : Addr} {x y : Int} {w : World} (hc : w.cell? a = some (.int .u64 x)) (hz : w.frozen? a = false) :
    (callFunc 107 #[.pointer (some a), .int .u64 y]).run Tryz.prog w = .ok (.value (.int .u64 x)) (w.setCell a (.int .u64 y)) := by
  rw [run_callFunc_extern (e := Extern.Atomic.swapT (.int .u64)) Tryz.func107 (by kernel_rfl) (by kernel_rfl) (by kernel_rfl) (by kernel_rfl)]
  change (Sem.run Tryz.prog (do
    let a' ← asAddr (.pointer (some a))
    let old ← Extern.Atomic.read (.int .u64) a'
    store a' (.int .u64 y) .atomic
    pure old) w).andThen _ = _
  simp [Extern.Atomic.read, asAddr, hc, hz, run_store Tryz.prog w a (.int .u64 y) .atomic rfl, Result.andThen]

/-! (*atomic.Uint64).X -/
set_option maxHeartbeats 400000
theorem u64_load (b o : Nat) (x : Int) (w : World) (h : Cel w b o (.int .u64 x)) :
    Calls Tryz.prog 49 #[.pointer (some ⟨b, o, none⟩)] w fun e w' => e = .returned (.int .u64 x) ∧ w = w' := by
  have hl := at_load h.c
  go_enter Tryz.func49, Tryz.ntmps49
  go_wp2
  go_ret
  exact ⟨rfl, rfl⟩
theorem u64_swap (b o : Nat) (x y : Int) (w : World) (h : Cel w b o (.int .u64 x)) :
    Calls Tryz.prog 98 #[.pointer (some ⟨b, o, none⟩), .int .u64 y] w fun e w' => e = .returned (.int .u64 x) ∧ w.setCell ⟨b, o, none⟩ (.int .u64 y) = w' := by
  have hl := at_swap (y := y) h.c h.f
  go_enter Tryz.func98, Tryz.ntmps98
  go_wp2
  go_ret
  exact ⟨rfl, rfl⟩
theorem u64_cas_hit (b o : Nat) (x y : Int) (w : World) (h : Cel w b o (.int .u64 x)) :
    Calls Tryz.prog 100 #[.pointer (some ⟨b, o, none⟩), .int .u64 x, .int .u64 y] w fun e w' => e = .returned (.bool true) ∧ w.setCell ⟨b, o, none⟩ (.int .u64 y) = w' := by
  have hl := at_cas_hit (y := y) h.c h.f
  go_enter Tryz.func100, Tryz.ntmps100
  go_wp2
  go_ret
  exact ⟨rfl, rfl⟩
theorem u64_cas_miss (b o : Nat) (x u y : Int) (w : World) (h : Cel w b o (.int .u64 x)) (hne : ¬ x = u) :
    Calls Tryz.prog 100 #[.pointer (some ⟨b, o, none⟩), .int .u64 u, .int .u64 y] w fun e w' => e = .returned (.bool false) ∧ w = w' := by
  have hl := at_cas_miss (y := y) h.c h.f hne
  go_enter Tryz.func100, Tryz.ntmps100
  go_wp2
  go_ret
  exact ⟨rfl, rfl⟩
end Go.Proofs.YtbbnafnnbhbbcaaGreatDoor
