/- The package cells: Do, by its kinds. -/
import Derived.Test.YtbbnafnnbhbbcaaGreatDoorCells
namespace Go.Proofs.YtbbnafnnbhbbcaaGreatDoor
open Go.RowKit
set_option maxRecDepth 100000
set_option linter.unusedVariables false
set_option linter.unusedSimpArgs false
set_option maxHeartbeats 1000000
theorem done_load (b o : Nat) (i x : Int) (w : World) (hc : Cel w b o (.int .u64 x)) :
    Calls Tryz.prog 83 #[.pointer (some ⟨b, o, none⟩), .agg #[.int .u8 1, .int .i64 i, .int .u64 0, .int .u64 0]] w fun e w' => e = .returned (.agg #[.int .u8 1, .int .i64 i, .int .u64 x, .int .u64 x, .bool true]) ∧ Fr [] w w' := by
  go_enter Tryz.func83, Tryz.ntmps83
  go_wp2_with (go_at_call 49; refine (u64_load b o x _ (by repeat' (first | (with_reducible exact hc) | (with_reducible refine Cel.dr ?_) | (with_reducible refine Cel.drN ?_ _) | (with_reducible refine Cel.al ?_ _) | (with_reducible refine Cel.st ?_ ?_ _) | (simp; done) | (simp; omega)))).mono ?_; rintro e w' ⟨rfl, rfl⟩)
  refine bodyPost_ret (v := .agg #[.int .u8 1, .int .i64 i, .int .u64 x, .int .u64 x, .bool true]) (by simp [results, Tryz.results83, go_sem]) rfl ?_
  exact ⟨rfl, by repeat' (first | (with_reducible exact Fr.refl _ _) | (with_reducible refine Fr.drew ?_) | (with_reducible refine Fr.drN ?_ _) | (with_reducible refine Fr.alloc ?_ _) | (with_reducible refine Fr.set ?_ ?_ _) | (left; simp; done) | (right; simp; done) | (right; simp; omega))⟩
theorem done_store (b o : Nat) (cs : Array Value) (t : TypeId) (i x y : Int) (w : World) (hb : Blk w b cs t) (hx : cs[o]? = some (.int .u64 x)) :
    Calls Tryz.prog 83 #[.pointer (some ⟨b, o, none⟩), .agg #[.int .u8 2, .int .i64 i, .int .u64 0, .int .u64 y]] w fun e w' => e = .returned (.agg #[.int .u8 2, .int .i64 i, .int .u64 x, .int .u64 y, .bool true]) ∧ Fr [b] w w' ∧ Blk w' b (cs.setIfInBounds o (.int .u64 y)) t := by
  have hc := hb.cel o hx
  have hlt := hc.lt
  have HX := Lib.hid hx
  clear hx
  go_enter Tryz.func83, Tryz.ntmps83
  go_wp2_with fail
  go_region_with (go_at_call 98; refine (u64_swap b o x y _ (by repeat' (first | (with_reducible exact hc) | (with_reducible refine Cel.dr ?_) | (with_reducible refine Cel.drN ?_ _) | (with_reducible refine Cel.al ?_ _) | (with_reducible refine Cel.st ?_ ?_ _) | (simp; done) | (simp; omega)))).mono ?_; rintro e w' ⟨rfl, rfl⟩)
  all_goals go_wp2
  all_goals refine bodyPost_ret (v := .agg #[.int .u8 2, .int .i64 i, .int .u64 x, .int .u64 y, .bool true]) (by simp [results, Tryz.results83, go_sem]) rfl ?_
  all_goals exact ⟨rfl, by repeat' (first | (with_reducible exact Fr.refl _ _) | (with_reducible refine Fr.drew ?_) | (with_reducible refine Fr.drN ?_ _) | (with_reducible refine Fr.alloc ?_ _) | (with_reducible refine Fr.set ?_ ?_ _) | (left; simp; done) | (right; simp; done) | (right; simp; omega)), by repeat' (first | (with_reducible exact hb) | (with_reducible refine Blk.drew ?_) | (with_reducible refine Blk.drN ?_ _) | (with_reducible refine Blk.set ?_ _ _) | (with_reducible refine Blk.other ?_ ?_ _) | (with_reducible refine Blk.alloc ?_ _) | (simp; done) | (simp; omega))⟩
theorem done_cas (b o : Nat) (cs : Array Value) (t : TypeId) (i x y : Int) (w : World) (hb : Blk w b cs t) (hx : cs[o]? = some (.int .u64 x)) :
    Calls Tryz.prog 83 #[.pointer (some ⟨b, o, none⟩), .agg #[.int .u8 5, .int .i64 i, .int .u64 x, .int .u64 y]] w fun e w' => e = .returned (.agg #[.int .u8 5, .int .i64 i, .int .u64 x, .int .u64 y, .bool true]) ∧ Fr [b] w w' ∧ Blk w' b (cs.setIfInBounds o (.int .u64 y)) t := by
  have hc := hb.cel o hx
  have hlt := hc.lt
  have HX := Lib.hid hx
  clear hx
  go_enter Tryz.func83, Tryz.ntmps83
  go_wp2_with fail
  refine wp_loop_rounds 1 ?_
  rw [rounds_succ]
  go_wp2_with (go_at_call 100; refine (u64_cas_hit b o x y _ (by repeat' (first | (with_reducible exact hc) | (with_reducible refine Cel.dr ?_) | (with_reducible refine Cel.drN ?_ _) | (with_reducible refine Cel.al ?_ _) | (with_reducible refine Cel.st ?_ ?_ _) | (simp; done) | (simp; omega)))).mono ?_; rintro e w' ⟨rfl, rfl⟩)
  go_region
  all_goals go_wp2
  all_goals refine bodyPost_ret (v := .agg #[.int .u8 5, .int .i64 i, .int .u64 x, .int .u64 y, .bool true]) (by simp [results, Tryz.results83, go_sem]) rfl ?_
  all_goals exact ⟨rfl, by repeat' (first | (with_reducible exact Fr.refl _ _) | (with_reducible refine Fr.drew ?_) | (with_reducible refine Fr.drN ?_ _) | (with_reducible refine Fr.alloc ?_ _) | (with_reducible refine Fr.set ?_ ?_ _) | (left; simp; done) | (right; simp; done) | (right; simp; omega)), by repeat' (first | (with_reducible exact hb) | (with_reducible refine Blk.drew ?_) | (with_reducible refine Blk.drN ?_ _) | (with_reducible refine Blk.set ?_ _ _) | (with_reducible refine Blk.other ?_ ?_ _) | (with_reducible refine Blk.alloc ?_ _) | (simp; done) | (simp; omega))⟩
theorem done_cas_miss (b o : Nat) (i x u y : Int) (w : World) (hc : Cel w b o (.int .u64 x)) (hne : ¬ x = u) :
    Calls Tryz.prog 83 #[.pointer (some ⟨b, o, none⟩), .agg #[.int .u8 5, .int .i64 i, .int .u64 u, .int .u64 y]] w fun e w' => e = .returned (.agg #[.int .u8 5, .int .i64 i, .int .u64 x, .int .u64 x, .bool false]) ∧ Fr [] w w' := by
  have hne' : (x != u) = true := by simpa using hne
  have HN := Lib.hid hne
  clear hne
  go_enter Tryz.func83, Tryz.ntmps83
  go_wp2_with fail
  refine wp_loop_rounds 1 ?_
  rw [rounds_succ]
  go_wp2_with (first | (go_at_call 100; refine (u64_cas_miss b o x u y _ (by repeat' (first | (with_reducible exact hc) | (with_reducible refine Cel.dr ?_) | (with_reducible refine Cel.drN ?_ _) | (with_reducible refine Cel.al ?_ _) | (with_reducible refine Cel.st ?_ ?_ _) | (simp; done) | (simp; omega))) HN.out).mono ?_; rintro e w' ⟨rfl, rfl⟩) | (go_at_call 49; refine (u64_load b o x _ (by repeat' (first | (with_reducible exact hc) | (with_reducible refine Cel.dr ?_) | (with_reducible refine Cel.drN ?_ _) | (with_reducible refine Cel.al ?_ _) | (with_reducible refine Cel.st ?_ ?_ _) | (simp; done) | (simp; omega)))).mono ?_; rintro e w' ⟨rfl, rfl⟩))
  refine bodyPost_ret (v := .agg #[.int .u8 5, .int .i64 i, .int .u64 x, .int .u64 x, .bool false]) (by simp [results, Tryz.results83, go_sem]) rfl ?_
  exact ⟨rfl, by repeat' (first | (with_reducible exact Fr.refl _ _) | (with_reducible refine Fr.drew ?_) | (with_reducible refine Fr.drN ?_ _) | (with_reducible refine Fr.alloc ?_ _) | (with_reducible refine Fr.set ?_ ?_ _) | (left; simp; done) | (right; simp; done) | (right; simp; omega))⟩
end Go.Proofs.YtbbnafnnbhbbcaaGreatDoor
