/- The package feed: the later actions. -/
import Derived.Test.YthkmknnajbpjfaaDoorWait
import Derived.Test.YthkmknnajbpjfaaDoorLst
namespace Go.Proofs.YthkmknnajbpjfaaDoor
open Go.RowKit
set_option maxRecDepth 100000
set_option linter.unusedVariables false
set_option linter.unusedSimpArgs false
set_option maxHeartbeats 4000000
theorem take_any (bp bf bc bw size : Nat) (l : List Int) (k x : Int) (nx : Value) (at_ : Int) (dn : Bool) (aAt aX why : Int) (s : Int) (w : World) (h : Fd w bf bc bw size l) (p : Pd w bp bf k x nx at_ dn aAt aX why) (h0 : 0 ≤ at_) (t : Int) (ht : IntKind.u64.wrap (at_ + size) = t) (c c1 : Nat) (hc : c = M.tcell size at_) (hc1 : (c : Int) + 1 = c1) (hx : l[c1]? = some s) :
    Calls Tryd.prog 45 #[.pointer (some ⟨bp, 0, none⟩)] w fun e w' => e = .returned (.agg #[.int .u8 1, .int .i64 c1, .int .u64 s, .int .u64 s, .bool true]) ∧ Fr [bp] w w' ∧ ∃ b1 b2, Pd w' bp bf k x (.func (.func 55) #[] #[.pointer (some ⟨b1, 0, none⟩), .pointer (some ⟨b2, 0, none⟩)]) at_ dn aAt aX why ∧ Blk w' b1 #[.int .u64 t] 29 ∧ Blk w' b2 #[.int .u64 at_, .int .u64 s] 45 := by
  have hpl := p.b.lt
  have hpz := p.z
  have hfl := h.f.lt
  have hcl := h.h.c.lt
  have hwl := h.h.d.lt
  have hfz := h.z
  have hn1 : bf ≠ bp := h.f.ne p.b (by decide)
  have hn2 : bc ≠ bp := h.h.c.ne p.b (by decide)
  have hn3 : bw ≠ bp := h.h.d.ne p.b (by decide)
  have p00 := p.b.cell
  have hcl1 : c ≤ 9000 := by
    rw [hc]; unfold M.tcell
    have hlo : (2 : Int) ≤ size := by have := h.lo; omega
    have hhi : (size : Int) ≤ 4096 := by have := h.hi; omega
    have hm1 : at_ % (size : Int) < size := Int.emod_lt_of_pos _ (by omega)
    omega
  have hwr : IntKind.i64.wrap (c1 : Int) = c1 := IntWalk.i64_in _ (by omega)
  have HX := Lib.hid hx
  have HC := Lib.hid hc
  clear hx hc
  go_enter Tryd.func45, Tryd.ntmps45
  go_upto_region 1 with fail
  go_cut [3] (fun s3 wx => ∃ b3, s3 = .pointer (some ⟨b3, 0, none⟩) ∧ Blk wx b3 #[.int .u8 1, .int .i64 c1, .int .u64 s, .int .u64 s, .bool true] 50 ∧ Blk wx w.heap.size #[.int .u8 0, .int .i64 0, .int .u64 0, .int .u64 0, .bool false] 50 ∧ b3 ≠ w.heap.size ∧ b3 ≠ bp ∧ w.heap.size ≤ b3 ∧ Fd wx bf bc bw size l ∧ Pd wx bp bf k x nx at_ dn aAt aX why ∧ Fr [bp] w wx)
  case first =>
    go_wp2_with (first | (go_at_call 41; (with_reducible refine (turn_any bp bf bc bw size l k x nx at_ dn aAt aX why _ ?_ ?_ h0 c HC.out).mono ?_); (focus (repeat' (first | (with_reducible exact h) | (with_reducible refine Fd.dr ?_) | (with_reducible refine Fd.drN ?_ _) | (with_reducible refine Fd.al ?_ _) | (with_reducible refine Fd.st ?_ _ ?_ ?_ ?_ ?_) | (simp; done) | (simp; omega)))); (focus (repeat' (first | (with_reducible exact p) | (with_reducible refine Pd.dr ?_) | (with_reducible refine Pd.drN ?_ _) | (with_reducible refine Pd.al ?_ _) | (with_reducible refine Pd.st ?_ _ ?_) | (simp; done) | (simp; omega)))); rintro e w0 ⟨rfl, nd, rfl⟩) | (go_at_call 32; (with_reducible refine (act_load bp bf bc bw size c1 l k x nx at_ dn aAt aX why s _ ?_ ?_ HX.out).mono ?_); (focus (repeat' (first | (with_reducible exact h) | (with_reducible refine Fd.dr ?_) | (with_reducible refine Fd.drN ?_ _) | (with_reducible refine Fd.al ?_ _) | (with_reducible refine Fd.st ?_ _ ?_ ?_ ?_ ?_) | (simp; done) | (simp; omega)))); (focus (repeat' (first | (with_reducible exact p) | (with_reducible refine Pd.dr ?_) | (with_reducible refine Pd.drN ?_ _) | (with_reducible refine Pd.al ?_ _) | (with_reducible refine Pd.st ?_ _ ?_) | (simp; done) | (simp; omega)))); rintro e w1 ⟨rfl, hF⟩; have hB : Blk w1 (w.heap.size) #[.int .u8 0, .int .i64 0, .int .u64 0, .int .u64 0, .bool false] 50 := (by refine hF.blk ?_ ?_; (focus (repeat' (first | ((with_reducible refine Blk.mk0 _ _ _ _ ?_); first | (simp; done) | (simp; omega)) | (with_reducible refine Blk.drew ?_) | (with_reducible refine Blk.drN ?_ _) | (with_reducible refine Blk.set ?_ _ _) | (with_reducible refine Blk.other ?_ ?_ _) | (with_reducible refine Blk.alloc ?_ _) | (simp; done) | (simp; omega)))); (first | (simp; done) | (simp; omega))); have zb1 := hB.cell; have zb2 := hB.free; have hlt1 := hB.lt; have hP : Pd w1 bp bf k x nx at_ dn aAt aX why := (by refine Pd.fr ?_ hF ?_; (focus (repeat' (first | (with_reducible exact p) | (with_reducible refine Pd.dr ?_) | (with_reducible refine Pd.drN ?_ _) | (with_reducible refine Pd.al ?_ _) | (with_reducible refine Pd.st ?_ _ ?_) | (simp; done) | (simp; omega)))); (first | (simp; done) | (simp; omega))); have p1 := hP.b.cell; have p2 := hP.b.free; have hpl1 := hP.b.lt; have hFd0 : Fd w1 bf bc bw size l := (by refine Fd.fr0 ?_ hF; (focus (repeat' (first | (with_reducible exact h) | (with_reducible refine Fd.dr ?_) | (with_reducible refine Fd.drN ?_ _) | (with_reducible refine Fd.al ?_ _) | (with_reducible refine Fd.st ?_ _ ?_ ?_ ?_ ?_) | (simp; done) | (simp; omega))))); (try (have hB' : Blk w1 (w.heap.size + 1) #[.int .u8 0, .int .i64 0, .int .u64 0, .int .u64 0, .bool false] 50 := (by refine hF.blk ?_ ?_; (focus (repeat' (first | ((with_reducible refine Blk.mk0 _ _ _ _ ?_); first | (simp; done) | (simp; omega)) | (with_reducible refine Blk.drew ?_) | (with_reducible refine Blk.drN ?_ _) | (with_reducible refine Blk.set ?_ _ _) | (with_reducible refine Blk.other ?_ ?_ _) | (with_reducible refine Blk.alloc ?_ _) | (simp; done) | (simp; omega)))); (first | (simp; done) | (simp; omega))); have zb1' := hB'.cell; have zb2' := hB'.free; have hlt1' := hB'.lt)); replace hF : Fr [bp] w w1 := (by refine Fr.trans ?_ (hF.mono ?_); (focus (repeat' (first | (with_reducible exact Fr.refl _ _) | (with_reducible refine Fr.drew ?_) | (with_reducible refine Fr.drN ?_ _) | (with_reducible refine Fr.alloc ?_ _) | (with_reducible refine Fr.set ?_ ?_ _) | (left; simp; done) | (right; simp; done) | (right; simp; omega)))); (simp))))
    all_goals go_wp2_with fail
    all_goals go_meet
    all_goals refine ⟨_, rfl, ?_, ?_, ?_, ?_, ?_, ?_, ?_, ?_⟩
    all_goals first
      | ((with_reducible show Fd _ _ _ _ _ _); (repeat' (first | (with_reducible exact hFd0) | (with_reducible refine Fd.dr ?_) | (with_reducible refine Fd.drN ?_ _) | (with_reducible refine Fd.al ?_ _) | (with_reducible refine Fd.st ?_ _ ?_ ?_ ?_ ?_) | (simp; done) | (simp; omega))); done)
      | ((with_reducible show Fr _ _ _); (repeat' (first | (with_reducible exact hF) | (with_reducible refine Fr.drew ?_) | (with_reducible refine Fr.drN ?_ _) | (with_reducible refine Fr.alloc ?_ _) | (with_reducible refine Fr.set ?_ ?_ _) | (left; simp; done) | (right; simp; done) | (right; simp; omega))); done)
      | ((with_reducible show Pd _ _ _ _ _ _ _ _ _ _ _); (repeat' (first | (with_reducible exact hP) | (with_reducible refine Pd.dr ?_) | (with_reducible refine Pd.drN ?_ _) | (with_reducible refine Pd.al ?_ _) | (with_reducible refine Pd.st ?_ _ ?_) | (simp; done) | (simp; omega))); done)
      | ((with_reducible show Blk _ w.heap.size _ _); (repeat' (first | (with_reducible exact hB) | (with_reducible refine Blk.drew ?_) | (with_reducible refine Blk.drN ?_ _) | (with_reducible refine Blk.set ?_ _ _) | (with_reducible refine Blk.other ?_ ?_ _) | (with_reducible refine Blk.alloc ?_ _) | (simp; done) | (simp; omega))); done)
      | ((with_reducible show Blk _ _ _ _); (repeat' (first | ((with_reducible refine Blk.mk0 _ _ _ _ ?_); first | (simp; done) | (simp; omega)) | (with_reducible refine Blk.drew ?_) | (with_reducible refine Blk.drN ?_ _) | (with_reducible refine Blk.set ?_ _ _) | (with_reducible refine Blk.other ?_ ?_ _) | (with_reducible refine Blk.alloc ?_ _) | (simp; done) | (simp; omega))); done)
      | (refine Blk.cast (cs := (Array.setIfInBounds (Array.setIfInBounds (Array.setIfInBounds (Array.setIfInBounds (Array.setIfInBounds #[.int .u8 0, .int .i64 0, .int .u64 0, .int .u64 0, .bool false] 0 (.int .u8 2)) 1 (.int .i64 c1)) 2 (.int .u64 s)) 3 (.int .u64 x)) 4 (.bool true))) ?_ ?_; (focus (repeat' (first | (with_reducible exact hB') | (with_reducible refine Blk.drew ?_) | (with_reducible refine Blk.drN ?_ _) | (with_reducible refine Blk.set ?_ _ _) | (with_reducible refine Blk.other ?_ ?_ _) | (with_reducible refine Blk.alloc ?_ _) | (simp; done) | (simp; omega)))); (simp; done))
      | ((with_reducible show _ ≠ _); (simp; done))
      | ((with_reducible show _ ≠ _); (simp; omega))
      | ((with_reducible show _ ≠ _); omega)
      | ((with_reducible show _ ≤ _); omega)
  case rest =>
    obtain ⟨b3, rfl, hD, hZ, hz1, hz2, hz3, hG, hQ, hFF⟩ := hcut
    have q1 := hQ.b.cell
    have q2 := hQ.b.free
    have q3 := hQ.b.lt
    have d1 := hD.cell
    have d2 := hD.lt
    have g0 := hG.f.lt
    have g1 := (hG.f.cel 1 (v := .int .u64 size) rfl).c
    have g2 := hG.h.c.lt
    have g3 := hG.h.d.lt
    have zz := hZ.lt
    go_upto_region 2 with fail
    go_cut [] (fun wy => ∃ b1 b2, Pd wy bp bf k x (.func (.func 55) #[] #[.pointer (some ⟨b1, 0, none⟩), .pointer (some ⟨b2, 0, none⟩)]) at_ dn aAt aX why ∧ Blk wy b1 #[.int .u64 t] 29 ∧ Blk wy b2 #[.int .u64 at_, .int .u64 s] 45 ∧ Blk wy b3 #[.int .u8 1, .int .i64 c1, .int .u64 s, .int .u64 s, .bool true] 50 ∧ Blk wy w.heap.size #[.int .u8 0, .int .i64 0, .int .u64 0, .int .u64 0, .bool false] 50 ∧ Fd wy bf bc bw size l ∧ Fr [bp] w wy)
    case first =>
      go_region_held3 (fun w' => w'.cell? ⟨bp, 4, none⟩ = some (.int .u64 at_) ∧ w'.cell? ⟨bp, 0, none⟩ = some (.pointer (some ⟨bf, 0, none⟩)) ∧ w'.cell? ⟨bf, 1, none⟩ = some (.int .u64 size) ∧ w'.cell? ⟨b3, 2, none⟩ = some (.int .u64 s)) (first | ((try dsimp only); refine ⟨?_, ?_, ?_, ?_⟩ <;> (simp [go_sem, q1, q3, d1, d2, g0, g1, hz2, hn1]; done)) | (simp [go_sem, q1, q3, d1, d2, g0, g1, hz2, hn1]; done)) ((go_at_call 50; (with_reducible refine (last_any _ _ _ _).mono ?_); rintro e w2 ⟨rfl, rfl⟩))
      all_goals go_wp2_with fail
      all_goals go_meet
      all_goals refine ⟨wc.heap.size, wc.heap.size + 1, ?_, ?_, ?_, ?_, ?_, ?_, ?_⟩
      · have hPb := hQ.b
        refine Pd.of (cs := (Array.setIfInBounds #[.pointer (some ⟨bf, 0, none⟩), .int .u8 k, .int .u64 x, nx, .int .u64 at_, .bool dn, .int .u64 aAt, .int .u64 aX, .int .i64 why] 3 (.func (.func 55) #[] #[.pointer (some ⟨wc.heap.size, 0, none⟩), .pointer (some ⟨wc.heap.size + 1, 0, none⟩)]))) ?_ p.z ?_
        · repeat' (first | (with_reducible exact hPb) | (with_reducible refine Blk.drew ?_) | (with_reducible refine Blk.drN ?_ _) | (with_reducible refine Blk.set ?_ _ _) | (with_reducible refine Blk.other ?_ ?_ _) | (with_reducible refine Blk.alloc ?_ _) | (simp; done) | (simp; omega))
        · simp
      · repeat' (first | ((with_reducible refine Blk.mk0 _ _ _ _ ?_); first | (simp; done) | (simp; omega)) | (with_reducible refine Blk.drew ?_) | (with_reducible refine Blk.drN ?_ _) | (with_reducible refine Blk.set ?_ _ _) | (with_reducible refine Blk.other ?_ ?_ _) | (with_reducible refine Blk.alloc ?_ _) | (simp; done) | (simp; omega))
      · repeat' (first | ((with_reducible refine Blk.mk0 _ _ _ _ ?_); first | (simp; done) | (simp; omega)) | (with_reducible refine Blk.drew ?_) | (with_reducible refine Blk.drN ?_ _) | (with_reducible refine Blk.set ?_ _ _) | (with_reducible refine Blk.other ?_ ?_ _) | (with_reducible refine Blk.alloc ?_ _) | (simp; done) | (simp; omega))
      · repeat' (first | (with_reducible exact hD) | (with_reducible refine Blk.drew ?_) | (with_reducible refine Blk.drN ?_ _) | (with_reducible refine Blk.set ?_ _ _) | (with_reducible refine Blk.other ?_ ?_ _) | (with_reducible refine Blk.alloc ?_ _) | (simp; done) | (simp; omega))
      · repeat' (first | (with_reducible exact hZ) | (with_reducible refine Blk.drew ?_) | (with_reducible refine Blk.drN ?_ _) | (with_reducible refine Blk.set ?_ _ _) | (with_reducible refine Blk.other ?_ ?_ _) | (with_reducible refine Blk.alloc ?_ _) | (simp; done) | (simp; omega))
      · repeat' (first | (with_reducible exact hG) | (with_reducible refine Fd.dr ?_) | (with_reducible refine Fd.drN ?_ _) | (with_reducible refine Fd.al ?_ _) | (with_reducible refine Fd.st ?_ _ ?_ ?_ ?_ ?_) | (simp; done) | (simp; omega))
      · repeat' (first | (with_reducible exact hFF) | (with_reducible refine Fr.drew ?_) | (with_reducible refine Fr.drN ?_ _) | (with_reducible refine Fr.alloc ?_ _) | (with_reducible refine Fr.set ?_ ?_ _) | (left; simp; done) | (right; simp; done) | (right; simp; omega))
    case rest =>
      obtain ⟨b1, b2, hR, hR1, hR2, hD', hZ', hG', hF'⟩ := hcut
      clear q1 q2 q3 d1 d2 g0 g1 g2 g3 zz hD hZ hG hQ hFF
      have r0 := hR.b.lt
      have r1 := hD'.cell
      have r2 := hD'.lt
      have r3 := hZ'.cell
      have r4 := hZ'.free
      have r5 := hZ'.lt
      have s1 := hR1.lt
      have s2 := hR2.lt
      have s3 : b1 ≠ w.heap.size := hR1.ne hZ' (by decide)
      have s4 : b2 ≠ w.heap.size := hR2.ne hZ' (by decide)
      have hGz := hG'
      have hFz := hF'
      clear hG' hF'
      go_wp2
      refine bodyPost_ret (v := .agg #[.int .u8 1, .int .i64 c1, .int .u64 s, .int .u64 s, .bool true]) (by simp [results, Tryd.results45, go_sem, *]) rfl ⟨rfl, ?_, b1, b2, ?_, ?_, ?_⟩
      · repeat' (first | (with_reducible exact hFz) | (with_reducible refine Fr.drew ?_) | (with_reducible refine Fr.drN ?_ _) | (with_reducible refine Fr.alloc ?_ _) | (with_reducible refine Fr.set ?_ ?_ _) | (left; simp; done) | (right; simp; done) | (right; simp; omega))
      · repeat' (first | (with_reducible exact hR) | (with_reducible refine Pd.dr ?_) | (with_reducible refine Pd.drN ?_ _) | (with_reducible refine Pd.al ?_ _) | (with_reducible refine Pd.st ?_ _ ?_) | (simp; done) | (simp; omega))
      · repeat' (first | (with_reducible exact hR1) | (with_reducible refine Blk.drew ?_) | (with_reducible refine Blk.drN ?_ _) | (with_reducible refine Blk.set ?_ _ _) | (with_reducible refine Blk.other ?_ ?_ _) | (with_reducible refine Blk.alloc ?_ _) | (simp; done) | (simp; omega))
      · repeat' (first | (with_reducible exact hR2) | (with_reducible refine Blk.drew ?_) | (with_reducible refine Blk.drN ?_ _) | (with_reducible refine Blk.set ?_ _ _) | (with_reducible refine Blk.other ?_ ?_ _) | (with_reducible refine Blk.alloc ?_ _) | (simp; done) | (simp; omega))
end Go.Proofs.YthkmknnajbpjfaaDoor
