/- What the package sync does where nobody else is: a Bool, a Pointer; Once.Do's parts. -/
import Derived.Test.YtbbnafnnbhbbcaaGreatDoorLocks
import Derived.Test.YtbbnafnnbhbbcaaGreatDoorFr
import Derived.Laws.LoneSync
import Derived.Lib.Builder
import Derived.Defers
import Derived.Laws.Pointers
import Derived.RegionCalls
import Derived.ChangeAlike
namespace Go.Proofs.YtbbnafnnbhbbcaaGreatDoor
open Go.RowKit
set_option maxRecDepth 100000
set_option linter.unusedVariables false
set_option linter.unusedSimpArgs false
set_option maxHeartbeats 2000000
theorem run_call_loadP {P : Program} {f : FuncId} {fn : Func} (hf : P.funcs[f]? = some fn) (hname : (fn.name == "runtime.NumGoroutine") = false) (hb : fn.body.isNone = true) (hn : Extern.findNext fn = none)
    (he : Extern.find fn = some (Extern.Atomic.loadT .ptr)) {a : Addr} {x : Option Addr} {w : World} (hc : w.cell? a = some (.pointer x)) :
    (callFunc f #[.pointer (some a)]).run P w = .ok (.value (.pointer x)) w := by
  rw [run_callFunc_extern hf hname hb hn he]
  change (Sem.run P (do Extern.Atomic.read .ptr (← asAddr (.pointer (some a)))) w).andThen _ = _
  simp [Extern.Atomic.read, asAddr, hc, Result.andThen]
theorem run_call_storeP {P : Program} {f : FuncId} {fn : Func} (hf : P.funcs[f]? = some fn) (hname : (fn.name == "runtime.NumGoroutine") = false) (hb : fn.body.isNone = true) (hn : Extern.findNext fn = none)
    (he : Extern.find fn = some Extern.Atomic.storeT) {a : Addr} {y : Option Addr} {u : Value} {w : World} (hc : w.cell? a = some u) (hz : w.frozen? a = false) :
    (callFunc f #[.pointer (some a), .pointer y]).run P w = .ok (.value (.tuple #[])) (w.setCell a (.pointer y)) := by
  rw [run_callFunc_extern hf hname hb hn he]
  change (Sem.run P (do
    store (← asAddr (.pointer (some a))) (.pointer y) .atomic
    pure Extern.Atomic.none_) w).andThen _ = _
  simp [asAddr, hc, hz, run_store P w a (.pointer y) .atomic rfl, Result.andThen, Extern.Atomic.none_]
theorem at_loadP {a : Addr} {x : Option Addr} {w : World} (hc : w.cell? a = some (.pointer x)) :
    (callFunc 52 #[.pointer (some a)]).run Tryz.prog w = .ok (.value (.pointer x)) w :=
  run_call_loadP Tryz.func52 (by kernel_rfl) (by kernel_rfl) (by kernel_rfl) (by kernel_rfl) hc
theorem at_storeP {a : Addr} {y : Option Addr} {u : Value} {w : World} (hc : w.cell? a = some u) (hz : w.frozen? a = false) :
    (callFunc 42 #[.pointer (some a), .pointer y]).run Tryz.prog w = .ok (.value (.tuple #[])) (w.setCell a (.pointer y)) :=
  run_call_storeP Tryz.func42 (by kernel_rfl) (by kernel_rfl) (by kernel_rfl) (by kernel_rfl) hc hz
theorem at_load32 {a : Addr} {x : Int} {w : World} (hc : w.cell? a = some (.int .u32 x)) :
    (callFunc 71 #[.pointer (some a)]).run Tryz.prog w = .ok (.value (.int .u32 x)) w :=
  run_call_load Tryz.func71 (by kernel_rfl) (by kernel_rfl) (by kernel_rfl) .u32 (by kernel_rfl) hc
theorem ptr_store (b o v : Nat) (p : Option Addr) (cs : Array Value) (w : World) (h : Cel w b o (.pointer p)) (hv : Blk w v cs 79) (hcs : cs.size = 2) :
    Calls Tryz.prog 24 #[.pointer (some ⟨b, o, none⟩), .pointer (some ⟨v, 0, none⟩)] w fun e w' => e = .returned (.tuple #[]) ∧ w.setCell ⟨b, o, none⟩ (.pointer (some ⟨v, 0, none⟩)) = w' := by
  have hl := at_storeP (y := some ⟨v, 0, none⟩) h.c h.f
  have hcv := run_convert_to_unsafe (P := Tryz.prog) (src := 27) (dst := 70) Tryz.underlying27 Tryz.underlying70 (by kernel_rfl) ((hv.cell 0).trans (Array.getElem?_eq_getElem (by omega)))
  go_enter Tryz.func24, Tryz.ntmps24
  go_wp2
  go_end0
  exact ⟨rfl, rfl⟩
theorem ptr_load (b o v : Nat) (cs : Array Value) (w : World) (h : Cel w b o (.pointer (some ⟨v, 0, none⟩))) (hv : Blk w v cs 79) (hcs : cs.size = 2) :
    Calls Tryz.prog 36 #[.pointer (some ⟨b, o, none⟩)] w fun e w' => e = .returned (.pointer (some ⟨v, 0, none⟩)) ∧ w = w' := by
  have hl := at_loadP h.c
  have hsh : w.shape? v = some (79, 2) := by
    unfold Blk at hv
    simp [World.shape?, hv, hcs]
  obtain ⟨j, hj⟩ : ∃ j, Tryz.prog.info? 79 = some j := Option.isSome_iff_exists.1 (by kernel_rfl)
  have hcv := Lib.run_from_unsafe (P := Tryz.prog) (w := w) (src := 70) (dst := 27) (u := 79) (e := 79) (cells := 2) ⟨v, 0, none⟩ Tryz.underlying70 Tryz.underlying27 hj hsh (by kernel_rfl)
  go_enter Tryz.func36, Tryz.ntmps36
  go_wp2
  go_ret
  exact ⟨rfl, rfl⟩
/-- '(*atomic.Bool).Store(true)', entered as a deferred call. -/
theorem store_deferred (a : Addr) (x : Value) (u : FrameMode) (w : World) (hc : w.cell? a = some x) (hz : w.frozen? a = false) :
    CallsD Tryz.prog 72 #[.pointer (some a), .bool true] u w fun e u' w' => u' = u ∧ (e = .returned (.tuple #[]) ∧ w' = w.drew.setCell a (.int .u32 1)) := by
  have hc' : w.drew.cell? a = some x := by go_simp
  have hz' : w.drew.frozen? a = false := by go_simp
  have hst := run_call_store (P := Tryz.prog) Tryz.func85 (by kernel_rfl) (by kernel_rfl) (by kernel_rfl) (by kernel_rfl) (k := .u32) (y := 1) hc' hz'
  go_enter_d Tryz.func72, Tryz.ntmps72
  go_wp2
  go_region_calls
  all_goals (go_end0; exact ⟨rfl, rfl⟩)
end Go.Proofs.YtbbnafnnbhbbcaaGreatDoor
