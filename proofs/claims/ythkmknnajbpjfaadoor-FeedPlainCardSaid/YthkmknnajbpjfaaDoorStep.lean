/- The package feed: Step, Done, Answer. -/
import Derived.Test.YthkmknnajbpjfaaDoorWait
namespace Go.Proofs.YthkmknnajbpjfaaDoor
open Go.RowKit
set_option maxRecDepth 100000
set_option linter.unusedVariables false
set_option linter.unusedSimpArgs false
set_option maxHeartbeats 2000000
theorem done_any (bp bf : Nat) (k x : Int) (nx : Value) (at_ : Int) (dn : Bool) (aAt aX why : Int) (w : World) (p : Pd w bp bf k x nx at_ dn aAt aX why) :
    Calls Tryd.prog 15 #[.pointer (some ⟨bp, 0, none⟩)] w fun e w' => e = .returned (.bool dn) ∧ w = w' := by
  have p5 := (p.b.cel 5 (v := .bool dn) rfl).c
  go_enter Tryd.func15, Tryd.ntmps15
  go_wp2
  go_ret
  exact ⟨rfl, rfl⟩
theorem answer_any (bp bf : Nat) (k x : Int) (nx : Value) (at_ : Int) (dn : Bool) (aAt aX why : Int) (w : World) (p : Pd w bp bf k x nx at_ dn aAt aX why) :
    Calls Tryd.prog 13 #[.pointer (some ⟨bp, 0, none⟩)] w fun e w' => e = .returned (.tuple #[.agg #[.int .u64 aAt, .int .u64 aX], .int .i64 why]) ∧ Fr [] w w' := by
  have p5 := p.b.cell
  have p6 := p.b.lt
  go_enter Tryd.func13, Tryd.ntmps13
  go_wp2
  go_region
  all_goals go_wp2
  all_goals refine bodyPost_ret (v := .tuple #[.agg #[.int .u64 aAt, .int .u64 aX], .int .i64 why]) (by simp [results, Tryd.results13, go_sem]) rfl ⟨rfl, ?_⟩
  all_goals repeat' (first | (with_reducible exact Fr.refl _ _) | (with_reducible refine Fr.drew ?_) | (with_reducible refine Fr.drN ?_ _) | (with_reducible refine Fr.alloc ?_ _) | (with_reducible refine Fr.set ?_ ?_ _) | (left; simp; done) | (right; simp; done) | (right; simp; omega))
theorem step_any (F : Nat) (caps : Array Value) (S : List Nat) (G : World → Prop) (bp bf : Nat) (k x : Int) (at_ : Int) (aAt aX why : Int) (w : World)
    (p : Pd w bp bf k x (.func (.func F) #[] caps) at_ false aAt aX why) (hS : ∀ z, z ∈ S → z < w.heap.size)
    (hE : ∀ (args : Array Value) (W : World), (callFunc F args).run Tryd.prog W = .ok (.enter F args) W)
    (hG : ∀ a b z cs, G a → w.heap.size ≤ z → Blk a z cs 50 → Fr [z] a b → G b)
    (hC : ∀ W, Fr [] w W → Calls Tryd.prog F (#[.pointer (some ⟨bp, 0, none⟩)] ++ caps) W fun e w' => (∃ d1 d2 d3 d4 d5, e = .returned (.agg #[.int .u8 d1, .int .i64 d2, .int .u64 d3, .int .u64 d4, .bool d5])) ∧ G w' ∧ (∃ b, w'.cell? ⟨bp, 5, none⟩ = some (.bool b)) ∧ Fr S W w') :
    Calls Tryd.prog 12 #[.pointer (some ⟨bp, 0, none⟩)] w fun e w' => (∃ v, e = .returned v) ∧ G w' ∧ Fr S w w' := by
  have p5 := p.b.cell
  have p6 := p.b.lt
  have HC := Lib.hid hC
  have HG := Lib.hid hG
  have HS := Lib.hid hS
  clear hC hG hS
  go_enter Tryd.func12, Tryd.ntmps12
  go_wp2_with fail
  go_region_with ((with_reducible refine (HC.out _ ?_).mono ?_); (focus (repeat' (first | (with_reducible exact Fr.refl _ _) | (with_reducible refine Fr.drew ?_) | (with_reducible refine Fr.drN ?_ _) | (with_reducible refine Fr.alloc ?_ _) | (with_reducible refine Fr.set ?_ ?_ _) | (left; simp; done) | (right; simp; done) | (right; simp; omega)))); rintro e w1 ⟨⟨d1, d2, d3, d4, d5, rfl⟩, hg, ⟨b, hb⟩, hF⟩; have hB : Blk w1 w.heap.size #[.int .u8 0, .int .i64 0, .int .u64 0, .int .u64 0, .bool false] 50 := (by refine hF.blk ?_ ?_; (focus (repeat' (first | ((with_reducible refine Blk.mk0 _ _ _ _ ?_); first | (simp; done) | (simp; omega)) | (with_reducible refine Blk.drew ?_) | (with_reducible refine Blk.drN ?_ _) | (with_reducible refine Blk.set ?_ _ _) | (with_reducible refine Blk.other ?_ ?_ _) | (with_reducible refine Blk.alloc ?_ _) | (simp; done) | (simp; omega)))); (intro hm; have := HS.out _ hm; omega)); have zb1 := hB.cell; have zb2 := hB.free; have zb3 := hB.lt; have zb4 := World.block_lt_of_cell? w1 _ hb)
  all_goals go_wp2_with fail
  all_goals first
    | (refine bodyPost_ret (v := .tuple #[.agg #[.int .u8 d1, .int .i64 d2, .int .u64 d3, .int .u64 d4, .bool d5], .bool b]) ?_ rfl ⟨⟨_, rfl⟩, ?_, ?_⟩; (focus (simp [results, Tryd.results12, go_sem, zb1, zb3]; done)))
    | (refine bodyPost_ret (v := .tuple #[.agg #[.int .u8 d1, .int .i64 d2, .int .u64 d3, .int .u64 d4, .bool d5], .bool false]) ?_ rfl ⟨⟨_, rfl⟩, ?_, ?_⟩; (focus (simp [results, Tryd.results12, go_sem, zb1, zb3]; done)))
  all_goals first
    | ((with_reducible show Fr _ _ _); replace hF : Fr S w w1 := (by refine Fr.trans ?_ hF; (repeat' (first | (with_reducible exact Fr.refl _ _) | (with_reducible refine Fr.drew ?_) | (with_reducible refine Fr.drN ?_ _) | (with_reducible refine Fr.alloc ?_ _) | (with_reducible refine Fr.set ?_ ?_ _) | (left; simp; done) | (right; simp; done) | (right; simp; omega)))); (repeat' (first | (with_reducible exact hF) | (with_reducible refine Fr.drew ?_) | (with_reducible refine Fr.drN ?_ _) | (with_reducible refine Fr.alloc ?_ _) | (with_reducible refine Fr.set ?_ ?_ _) | (left; simp; done) | (right; simp; done) | (right; simp; omega))); done)
    | (refine HG.out w1 _ w.heap.size _ hg (Nat.le_refl _) hB ?_; (repeat' (first | (with_reducible exact Fr.refl _ _) | (with_reducible refine Fr.drew ?_) | (with_reducible refine Fr.drN ?_ _) | (with_reducible refine Fr.alloc ?_ _) | (with_reducible refine Fr.set ?_ ?_ _) | (left; simp; done) | (right; simp; done) | (right; simp; omega))); done)
end Go.Proofs.YthkmknnajbpjfaaDoor
