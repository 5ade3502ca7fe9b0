/- The package feed: the later actions. -/
import Derived.Test.YthkmknnajbpjfaaDoorWait
namespace Go.Proofs.YthkmknnajbpjfaaDoor
open Go.RowKit
set_option maxRecDepth 100000
set_option linter.unusedVariables false
set_option linter.unusedSimpArgs false
set_option maxHeartbeats 4000000
theorem last1_any (bp bf bc bw size : Nat) (l : List Int) (k x : Int) (nx : Value) (at_ : Int) (dn : Bool) (aAt aX why : Int) (s : Int) (w : World) (h : Fd w bf bc bw size l) (p : Pd w bp bf k x nx at_ dn aAt aX why) (b1 b2 : Nat) (v a b : Int) (hB1 : Blk w b1 #[.int .u64 v] 29) (hB2 : Blk w b2 #[.int .u64 a, .int .u64 b] 45) (h0 : 0 ≤ at_) (c : Nat) (hc : c = M.tcell size at_) (hx : l[c]? = some s) :
    Calls Tryd.prog 55 #[.pointer (some ⟨bp, 0, none⟩), .pointer (some ⟨b1, 0, none⟩), .pointer (some ⟨b2, 0, none⟩)] w fun e w' => e = .returned (.agg #[.int .u8 2, .int .i64 c, .int .u64 s, .int .u64 v, .bool true]) ∧ Fd w' bf bc bw size (l.set c v) ∧ Pd w' bp bf k x nx at_ true a b why ∧ Fr [bp, bw] w w' := by
  have hpl := p.b.lt
  have hpz := p.z
  have hfl := h.f.lt
  have hcl := h.h.c.lt
  have hwl := h.h.d.lt
  have hfz := h.z
  have hn1 : bf ≠ bp := h.f.ne p.b (by decide)
  have hn2 : bc ≠ bp := h.h.c.ne p.b (by decide)
  have hn3 : bw ≠ bp := h.h.d.ne p.b (by decide)
  have p00 := p.b.cell
  have k1 := (hB1.cel 0 (v := .int .u64 v) rfl).c
  have k2 := (hB2.cel 0 (v := .int .u64 a) rfl).c
  have k3 := (hB2.cel 1 (v := .int .u64 b) rfl).c
  have l1 := hB1.lt
  have l2 := hB2.lt
  have m1 : b2 ≠ bw := hB2.ne h.h.d (by decide)
  have m2 : b2 ≠ bp := hB2.ne p.b (by decide)
  have HX := Lib.hid hx
  have HC := Lib.hid hc
  clear hx hc
  go_enter Tryd.func55, Tryd.ntmps55
  go_wp2_with fail
  go_region_with (first | (go_at_call 41; (with_reducible refine (turn_any bp bf bc bw size l k x nx at_ dn aAt aX why _ ?_ ?_ h0 c HC.out).mono ?_); (focus (repeat' (first | (with_reducible exact h) | (with_reducible refine Fd.dr ?_) | (with_reducible refine Fd.drN ?_ _) | (with_reducible refine Fd.al ?_ _) | (with_reducible refine Fd.st ?_ _ ?_ ?_ ?_ ?_) | (simp; done) | (simp; omega)))); (focus (repeat' (first | (with_reducible exact p) | (with_reducible refine Pd.dr ?_) | (with_reducible refine Pd.drN ?_ _) | (with_reducible refine Pd.al ?_ _) | (with_reducible refine Pd.st ?_ _ ?_) | (simp; done) | (simp; omega)))); rintro e w0 ⟨rfl, nd, rfl⟩) | (go_at_call 32; (with_reducible refine (act_store bp bf bc bw size c l k x nx at_ dn aAt aX why s v _ ?_ ?_ HX.out).mono ?_); (focus (repeat' (first | (with_reducible exact h) | (with_reducible refine Fd.dr ?_) | (with_reducible refine Fd.drN ?_ _) | (with_reducible refine Fd.al ?_ _) | (with_reducible refine Fd.st ?_ _ ?_ ?_ ?_ ?_) | (simp; done) | (simp; omega)))); (focus (repeat' (first | (with_reducible exact p) | (with_reducible refine Pd.dr ?_) | (with_reducible refine Pd.drN ?_ _) | (with_reducible refine Pd.al ?_ _) | (with_reducible refine Pd.st ?_ _ ?_) | (simp; done) | (simp; omega)))); rintro e w1 ⟨rfl, hFd, hF⟩; have hB : Blk w1 (w.heap.size) #[.int .u8 0, .int .i64 0, .int .u64 0, .int .u64 0, .bool false] 50 := (by refine hF.blk ?_ ?_; (focus (repeat' (first | ((with_reducible refine Blk.mk0 _ _ _ _ ?_); first | (simp; done) | (simp; omega)) | (with_reducible refine Blk.drew ?_) | (with_reducible refine Blk.drN ?_ _) | (with_reducible refine Blk.set ?_ _ _) | (with_reducible refine Blk.other ?_ ?_ _) | (with_reducible refine Blk.alloc ?_ _) | (simp; done) | (simp; omega)))); (first | (simp; done) | (simp; omega))); have zb1 := hB.cell; have zb2 := hB.free; have hlt1 := hB.lt; have hP : Pd w1 bp bf k x nx at_ dn aAt aX why := (by refine Pd.fr ?_ hF ?_; (focus (repeat' (first | (with_reducible exact p) | (with_reducible refine Pd.dr ?_) | (with_reducible refine Pd.drN ?_ _) | (with_reducible refine Pd.al ?_ _) | (with_reducible refine Pd.st ?_ _ ?_) | (simp; done) | (simp; omega)))); (first | (simp; done) | (simp; omega))); have p1 := hP.b.cell; have p2 := hP.b.free; have hpl1 := hP.b.lt; have hC2 : Blk w1 b2 #[.int .u64 a, .int .u64 b] 45 := (by refine hF.blk ?_ ?_; (focus (repeat' (first | (with_reducible exact hB2) | (with_reducible refine Blk.drew ?_) | (with_reducible refine Blk.drN ?_ _) | (with_reducible refine Blk.set ?_ _ _) | (with_reducible refine Blk.other ?_ ?_ _) | (with_reducible refine Blk.alloc ?_ _) | (simp; done) | (simp; omega)))); (simpa using m1)); have kk2 := hC2.cell; have ll2 := hC2.lt; (try (have hB' : Blk w1 (w.heap.size + 1) #[.int .u8 0, .int .i64 0, .int .u64 0, .int .u64 0, .bool false] 50 := (by refine hF.blk ?_ ?_; (focus (repeat' (first | ((with_reducible refine Blk.mk0 _ _ _ _ ?_); first | (simp; done) | (simp; omega)) | (with_reducible refine Blk.drew ?_) | (with_reducible refine Blk.drN ?_ _) | (with_reducible refine Blk.set ?_ _ _) | (with_reducible refine Blk.other ?_ ?_ _) | (with_reducible refine Blk.alloc ?_ _) | (simp; done) | (simp; omega)))); (first | (simp; done) | (simp; omega))); have zb1' := hB'.cell; have zb2' := hB'.free; have hlt1' := hB'.lt)); replace hF : Fr [bp, bw] w w1 := (by refine Fr.trans ?_ (hF.mono ?_); (focus (repeat' (first | (with_reducible exact Fr.refl _ _) | (with_reducible refine Fr.drew ?_) | (with_reducible refine Fr.drN ?_ _) | (with_reducible refine Fr.alloc ?_ _) | (with_reducible refine Fr.set ?_ ?_ _) | (left; simp; done) | (right; simp; done) | (right; simp; omega)))); (simp))))
  all_goals go_wp2_with fail
  all_goals go_region
  all_goals go_wp2
  all_goals refine bodyPost_ret (v := .agg #[.int .u8 2, .int .i64 c, .int .u64 s, .int .u64 v, .bool true]) (by simp [results, Tryd.results55, go_sem, *]) rfl ⟨rfl, ?_, ?_, ?_⟩
  all_goals first
    | ((with_reducible show Fd _ _ _ _ _ _); (repeat' (first | (with_reducible exact hFd) | (with_reducible refine Fd.dr ?_) | (with_reducible refine Fd.drN ?_ _) | (with_reducible refine Fd.al ?_ _) | (with_reducible refine Fd.st ?_ _ ?_ ?_ ?_ ?_) | (simp; done) | (simp; omega))); done)
    | ((with_reducible show Fr _ _ _); (repeat' (first | (with_reducible exact hF) | (with_reducible refine Fr.drew ?_) | (with_reducible refine Fr.drN ?_ _) | (with_reducible refine Fr.alloc ?_ _) | (with_reducible refine Fr.set ?_ ?_ _) | (left; simp; done) | (right; simp; done) | (right; simp; omega))); done)
    | (have hPb := hP.b; refine Pd.of (cs := (Array.setIfInBounds (Array.setIfInBounds (Array.setIfInBounds #[.pointer (some ⟨bf, 0, none⟩), .int .u8 k, .int .u64 x, nx, .int .u64 at_, .bool dn, .int .u64 aAt, .int .u64 aX, .int .i64 why] 5 (.bool true)) 6 (.int .u64 a)) 7 (.int .u64 b))) ?_ p.z ?_; (focus (repeat' (first | (with_reducible exact hPb) | (with_reducible refine Blk.drew ?_) | (with_reducible refine Blk.drN ?_ _) | (with_reducible refine Blk.set ?_ _ _) | (with_reducible refine Blk.other ?_ ?_ _) | (with_reducible refine Blk.alloc ?_ _) | (simp; done) | (simp; omega)))); simp)

end Go.Proofs.YthkmknnajbpjfaaDoor
