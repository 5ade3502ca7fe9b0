/- The package feed: look, wait, move: the first three actions of put and take. -/
import Derived.Test.YthkmknnajbpjfaaDoorTurn
import Derived.Test.YthkmknnajbpjfaaDoorFeedM
namespace Go.Proofs.YthkmknnajbpjfaaDoor
open Go.RowKit
set_option maxRecDepth 100000
set_option maxHeartbeats 1000000
theorem look_put (bp bf bc bw size : Nat) (l : List Int) (x : Int) (nx : Value) (at_ : Int) (dn : Bool) (aAt aX why : Int) (s : Int) (w : World) (h : Fd w bf bc bw size l) (p : Pd w bp bf 1 x nx at_ dn aAt aX why) (hx : l[0]? = some s) :
    Calls Tryd.prog 23 #[.pointer (some ⟨bp, 0, none⟩)] w fun e w' => e = .returned (.agg #[.int .u8 1, .int .i64 0, .int .u64 s, .int .u64 s, .bool true]) ∧ Pd w' bp bf 1 x (.func (.func 33) #[] #[]) s dn aAt aX why ∧ Fr [bp] w w' := by
  have hpl := p.b.lt
  have HX := Lib.hid hx
  clear hx
  go_enter Tryd.func23, Tryd.ntmps23
  go_wp2_with (first | (go_at_call 31; refine (end_put bp bf x nx at_ dn aAt aX why _ (p.al _)).mono ?_; rintro e w1 ⟨rfl, rfl⟩) | (go_at_call 32; refine (act_load bp bf bc bw size 0 l 1 x nx at_ dn aAt aX why s _ (h.al _) (p.al _) HX.out).mono ?_; rintro e w1 ⟨rfl, hF⟩; have hB : Blk w1 (w.heap.size) #[.int .u8 0, .int .i64 0, .int .u64 0, .int .u64 0, .bool false] 50 := hF.blk (Blk.new _ _ _) (by first | (simp; done) | (simp; omega)); have b1 := hB.cell; have b2 := hB.free; have hlt1 := hB.lt; have hP := hF.blk ((p.al _).b) (by first | (simp; done) | (simp; omega)); have p1 := hP.cell; have p2 := hP.free; have hpl1 := hP.lt))
  refine bodyPost_ret (v := .agg #[.int .u8 1, .int .i64 0, .int .u64 s, .int .u64 s, .bool true]) (by simp [results, Tryd.results23, go_sem, b1, hlt1]) rfl ⟨rfl, ?_, ?_⟩
  · apply Pd.of (cs := (Array.setIfInBounds (Array.setIfInBounds #[.pointer (some ⟨bf, 0, none⟩), .int .u8 1, .int .u64 x, nx, .int .u64 at_, .bool dn, .int .u64 aAt, .int .u64 aX, .int .i64 why] 4 (.int .u64 s)) 3 (.func (.func 33) #[] #[])))
    · repeat' (first | (with_reducible exact hP) | (with_reducible refine Blk.drew ?_) | (with_reducible refine Blk.drN ?_ _) | (with_reducible refine Blk.set ?_ _ _) | (with_reducible refine Blk.other ?_ ?_ _) | (with_reducible refine Blk.alloc ?_ _) | (simp; done) | (simp; omega))
    · exact p.z
    · simp
  · replace hF := Fr.trans (a := w) (S := [bp]) (by repeat' (first | (with_reducible exact Fr.refl _ _) | (with_reducible refine Fr.drew ?_) | (with_reducible refine Fr.drN ?_ _) | (with_reducible refine Fr.alloc ?_ _) | (with_reducible refine Fr.set ?_ ?_ _) | (left; simp; done) | (right; simp; done) | (right; simp; omega))) (hF.mono (by simp))
    repeat' (first | (with_reducible exact hF) | (with_reducible refine Fr.drew ?_) | (with_reducible refine Fr.drN ?_ _) | (with_reducible refine Fr.alloc ?_ _) | (with_reducible refine Fr.set ?_ ?_ _) | (left; simp; done) | (right; simp; done) | (right; simp; omega))
theorem look_take (bp bf bc bw size : Nat) (l : List Int) (k : Int) (x : Int) (nx : Value) (at_ : Int) (dn : Bool) (aAt aX why : Int) (s : Int) (w : World) (h : Fd w bf bc bw size l) (p : Pd w bp bf k x nx at_ dn aAt aX why) (hk : (k == 1) = false) (hx : l[1]? = some s) :
    Calls Tryd.prog 23 #[.pointer (some ⟨bp, 0, none⟩)] w fun e w' => e = .returned (.agg #[.int .u8 1, .int .i64 1, .int .u64 s, .int .u64 s, .bool true]) ∧ Pd w' bp bf k x (.func (.func 33) #[] #[]) s dn aAt aX why ∧ Fr [bp] w w' := by
  have hpl := p.b.lt
  have HX := Lib.hid hx
  clear hx
  go_enter Tryd.func23, Tryd.ntmps23
  go_wp2_with (first | (go_at_call 31; refine (end_take bp bf k x nx at_ dn aAt aX why _ (p.al _) hk).mono ?_; rintro e w1 ⟨rfl, rfl⟩) | (go_at_call 32; refine (act_load bp bf bc bw size 1 l k x nx at_ dn aAt aX why s _ (h.al _) (p.al _) HX.out).mono ?_; rintro e w1 ⟨rfl, hF⟩; have hB : Blk w1 (w.heap.size) #[.int .u8 0, .int .i64 0, .int .u64 0, .int .u64 0, .bool false] 50 := hF.blk (Blk.new _ _ _) (by first | (simp; done) | (simp; omega)); have b1 := hB.cell; have b2 := hB.free; have hlt1 := hB.lt; have hP := hF.blk ((p.al _).b) (by first | (simp; done) | (simp; omega)); have p1 := hP.cell; have p2 := hP.free; have hpl1 := hP.lt))
  refine bodyPost_ret (v := .agg #[.int .u8 1, .int .i64 1, .int .u64 s, .int .u64 s, .bool true]) (by simp [results, Tryd.results23, go_sem, b1, hlt1]) rfl ⟨rfl, ?_, ?_⟩
  · apply Pd.of (cs := (Array.setIfInBounds (Array.setIfInBounds #[.pointer (some ⟨bf, 0, none⟩), .int .u8 k, .int .u64 x, nx, .int .u64 at_, .bool dn, .int .u64 aAt, .int .u64 aX, .int .i64 why] 4 (.int .u64 s)) 3 (.func (.func 33) #[] #[])))
    · repeat' (first | (with_reducible exact hP) | (with_reducible refine Blk.drew ?_) | (with_reducible refine Blk.drN ?_ _) | (with_reducible refine Blk.set ?_ _ _) | (with_reducible refine Blk.other ?_ ?_ _) | (with_reducible refine Blk.alloc ?_ _) | (simp; done) | (simp; omega))
    · exact p.z
    · simp
  · replace hF := Fr.trans (a := w) (S := [bp]) (by repeat' (first | (with_reducible exact Fr.refl _ _) | (with_reducible refine Fr.drew ?_) | (with_reducible refine Fr.drN ?_ _) | (with_reducible refine Fr.alloc ?_ _) | (with_reducible refine Fr.set ?_ ?_ _) | (left; simp; done) | (right; simp; done) | (right; simp; omega))) (hF.mono (by simp))
    repeat' (first | (with_reducible exact hF) | (with_reducible refine Fr.drew ?_) | (with_reducible refine Fr.drN ?_ _) | (with_reducible refine Fr.alloc ?_ _) | (with_reducible refine Fr.set ?_ ?_ _) | (left; simp; done) | (right; simp; done) | (right; simp; omega))
end Go.Proofs.YthkmknnajbpjfaaDoor
