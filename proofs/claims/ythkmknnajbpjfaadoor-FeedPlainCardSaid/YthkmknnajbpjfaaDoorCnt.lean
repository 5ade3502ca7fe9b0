/- The package feed: the later actions. -/
import Derived.Test.YthkmknnajbpjfaaDoorWait
namespace Go.Proofs.YthkmknnajbpjfaaDoor
open Go.RowKit
set_option maxRecDepth 100000
set_option linter.unusedVariables false
set_option linter.unusedSimpArgs false
set_option maxHeartbeats 4000000
theorem count_any (bp bf bc bw size : Nat) (l : List Int) (k x : Int) (nx : Value) (at_ : Int) (dn : Bool) (aAt aX why : Int) (s : Int) (w : World) (h : Fd w bf bc bw size l) (p : Pd w bp bf k x nx at_ dn aAt aX why) (hx : l[1]? = some s) :
    Calls Tryd.prog 24 #[.pointer (some ⟨bp, 0, none⟩)] w fun e w' => e = .returned (.agg #[.int .u8 1, .int .i64 1, .int .u64 s, .int .u64 s, .bool true]) ∧ Pd w' bp bf k x (.func (.func 34) #[] #[]) s dn aAt aX why ∧ Fr [bp] w w' := by
  have hpl := p.b.lt
  have hpz := p.z
  have hfl := h.f.lt
  have hcl := h.h.c.lt
  have hwl := h.h.d.lt
  have hfz := h.z
  have hn1 : bf ≠ bp := h.f.ne p.b (by decide)
  have hn2 : bc ≠ bp := h.h.c.ne p.b (by decide)
  have hn3 : bw ≠ bp := h.h.d.ne p.b (by decide)
  have p00 := p.b.cell
  have HX := Lib.hid hx
  clear hx
  go_enter Tryd.func24, Tryd.ntmps24
  go_wp2_with (go_at_call 32; (refine (act_load bp bf bc bw size 1 l k x nx at_ dn aAt aX why s _ ?_ ?_ HX.out).mono ?_); (focus (repeat' (first | (with_reducible exact h) | (with_reducible refine Fd.dr ?_) | (with_reducible refine Fd.drN ?_ _) | (with_reducible refine Fd.al ?_ _) | (with_reducible refine Fd.st ?_ _ ?_ ?_ ?_ ?_) | (simp; done) | (simp; omega)))); (focus (repeat' (first | (with_reducible exact p) | (with_reducible refine Pd.dr ?_) | (with_reducible refine Pd.drN ?_ _) | (with_reducible refine Pd.al ?_ _) | (with_reducible refine Pd.st ?_ _ ?_) | (simp; done) | (simp; omega)))); rintro e w1 ⟨rfl, hF⟩; have hB : Blk w1 (w.heap.size) #[.int .u8 0, .int .i64 0, .int .u64 0, .int .u64 0, .bool false] 50 := (by refine hF.blk ?_ ?_; (focus (repeat' (first | ((with_reducible refine Blk.mk0 _ _ _ _ ?_); first | (simp; done) | (simp; omega)) | (with_reducible refine Blk.drew ?_) | (with_reducible refine Blk.drN ?_ _) | (with_reducible refine Blk.set ?_ _ _) | (with_reducible refine Blk.other ?_ ?_ _) | (with_reducible refine Blk.alloc ?_ _) | (simp; done) | (simp; omega)))); (first | (simp; done) | (simp; omega))); have zb1 := hB.cell; have zb2 := hB.free; have hlt1 := hB.lt; have hP : Pd w1 bp bf k x nx at_ dn aAt aX why := (by refine Pd.fr ?_ hF ?_; (focus (repeat' (first | (with_reducible exact p) | (with_reducible refine Pd.dr ?_) | (with_reducible refine Pd.drN ?_ _) | (with_reducible refine Pd.al ?_ _) | (with_reducible refine Pd.st ?_ _ ?_) | (simp; done) | (simp; omega)))); (first | (simp; done) | (simp; omega))); have p1 := hP.b.cell; have p2 := hP.b.free; have hpl1 := hP.b.lt; (try (have hB' : Blk w1 (w.heap.size + 1) #[.int .u8 0, .int .i64 0, .int .u64 0, .int .u64 0, .bool false] 50 := (by refine hF.blk ?_ ?_; (focus (repeat' (first | ((with_reducible refine Blk.mk0 _ _ _ _ ?_); first | (simp; done) | (simp; omega)) | (with_reducible refine Blk.drew ?_) | (with_reducible refine Blk.drN ?_ _) | (with_reducible refine Blk.set ?_ _ _) | (with_reducible refine Blk.other ?_ ?_ _) | (with_reducible refine Blk.alloc ?_ _) | (simp; done) | (simp; omega)))); (first | (simp; done) | (simp; omega))); have zb1' := hB'.cell; have zb2' := hB'.free; have hlt1' := hB'.lt)); replace hF : Fr [bp] w w1 := (by refine Fr.trans ?_ (hF.mono ?_); (focus (repeat' (first | (with_reducible exact Fr.refl _ _) | (with_reducible refine Fr.drew ?_) | (with_reducible refine Fr.drN ?_ _) | (with_reducible refine Fr.alloc ?_ _) | (with_reducible refine Fr.set ?_ ?_ _) | (left; simp; done) | (right; simp; done) | (right; simp; omega)))); (simp)))
  all_goals refine bodyPost_ret (v := .agg #[.int .u8 1, .int .i64 1, .int .u64 s, .int .u64 s, .bool true]) (by simp [results, Tryd.results24, go_sem, *]) rfl ⟨rfl, ?_, ?_⟩
  all_goals first
    | ((with_reducible show Fr _ _ _); (repeat' (first | (with_reducible exact hF) | (with_reducible refine Fr.drew ?_) | (with_reducible refine Fr.drN ?_ _) | (with_reducible refine Fr.alloc ?_ _) | (with_reducible refine Fr.set ?_ ?_ _) | (left; simp; done) | (right; simp; done) | (right; simp; omega))); done)
    | (have hPb := hP.b; refine Pd.of (cs := (Array.setIfInBounds (Array.setIfInBounds #[.pointer (some ⟨bf, 0, none⟩), .int .u8 k, .int .u64 x, nx, .int .u64 at_, .bool dn, .int .u64 aAt, .int .u64 aX, .int .i64 why] 4 (.int .u64 s)) 3 (.func (.func 34) #[] #[]))) ?_ p.z ?_; (focus (repeat' (first | (with_reducible exact hPb) | (with_reducible refine Blk.drew ?_) | (with_reducible refine Blk.drN ?_ _) | (with_reducible refine Blk.set ?_ _ _) | (with_reducible refine Blk.other ?_ ?_ _) | (with_reducible refine Blk.alloc ?_ _) | (simp; done) | (simp; omega)))); simp)

end Go.Proofs.YthkmknnajbpjfaaDoor
