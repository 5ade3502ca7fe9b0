/- The package feed: Start, and an operation as a whole. -/
import Derived.Test.YthkmknnajbpjfaaDoorWhole
namespace Go.Proofs.YthkmknnajbpjfaaDoor
open Go.RowKit
set_option maxRecDepth 100000
set_option linter.unusedVariables false
set_option linter.unusedSimpArgs false
set_option maxHeartbeats 2000000
theorem start_put (bf size : Nat) (x : Int) (hx : 0 ≤ x ∧ x < 18446744073709551616) (w : World) (hu : 0 < w.heap.size) :
    Calls Tryd.prog 9 #[.pointer (some ⟨bf, 0, none⟩), .agg #[.int .u8 1, .int .u64 x]] w fun e w' => ∃ bp, e = .returned (.tuple #[.pointer (some ⟨bp, 0, none⟩), .int .i64 0]) ∧ w.heap.size ≤ bp ∧ PM w' bp bf size ⟨1, x, 0, 0, 0, false, 0, 0, 0⟩ ∧ Fr [] w w' := by
  go_enter Tryd.func9, Tryd.ntmps9
  go_wp2
  go_ret2
  refine ⟨w.heap.size + 1, rfl, by omega, ⟨⟨0, 0, ⟨?_, by omega⟩, fun _ h4 => by cases h4⟩, ⟨by simp, hx, by simp, by simp, by simp⟩⟩, ?_⟩
  · refine Blk.cast (cs := #[.pointer (some ⟨bf, 0, none⟩), .int .u8 1, .int .u64 x, .func (.func 23) #[] #[], .int .u64 0, .bool false, .int .u64 0, .int .u64 0, .int .i64 0]) ?_ rfl
    repeat' (first | ((with_reducible refine Blk.mk0 _ _ _ _ ?_); first | (simp; done) | (simp; omega)) | (with_reducible refine Blk.drew ?_) | (with_reducible refine Blk.drN ?_ _) | (with_reducible refine Blk.set ?_ _ _) | (with_reducible refine Blk.other ?_ ?_ _) | (with_reducible refine Blk.alloc ?_ _) | (simp; done) | (simp; omega))
  · repeat' (first | (with_reducible exact Fr.refl _ _) | (with_reducible refine Fr.drew ?_) | (with_reducible refine Fr.drN ?_ _) | (with_reducible refine Fr.alloc ?_ _) | (with_reducible refine Fr.set ?_ ?_ _) | (left; simp; done) | (right; simp; done) | (right; simp; omega))
theorem start_take (bf size : Nat) (w : World) (hu : 0 < w.heap.size) :
    Calls Tryd.prog 9 #[.pointer (some ⟨bf, 0, none⟩), .agg #[.int .u8 2, .int .u64 0]] w fun e w' => ∃ bp, e = .returned (.tuple #[.pointer (some ⟨bp, 0, none⟩), .int .i64 0]) ∧ w.heap.size ≤ bp ∧ PM w' bp bf size ⟨2, 0, 0, 0, 0, false, 0, 0, 0⟩ ∧ Fr [] w w' := by
  go_enter Tryd.func9, Tryd.ntmps9
  go_wp2
  go_ret2
  refine ⟨w.heap.size + 1, rfl, by omega, ⟨⟨0, 0, ⟨?_, by omega⟩, fun _ h4 => by cases h4⟩, ⟨by simp, by simp, by simp, by simp, by simp⟩⟩, ?_⟩
  · refine Blk.cast (cs := #[.pointer (some ⟨bf, 0, none⟩), .int .u8 2, .int .u64 0, .func (.func 23) #[] #[], .int .u64 0, .bool false, .int .u64 0, .int .u64 0, .int .i64 0]) ?_ rfl
    repeat' (first | ((with_reducible refine Blk.mk0 _ _ _ _ ?_); first | (simp; done) | (simp; omega)) | (with_reducible refine Blk.drew ?_) | (with_reducible refine Blk.drN ?_ _) | (with_reducible refine Blk.set ?_ _ _) | (with_reducible refine Blk.other ?_ ?_ _) | (with_reducible refine Blk.alloc ?_ _) | (simp; done) | (simp; omega))
  · repeat' (first | (with_reducible exact Fr.refl _ _) | (with_reducible refine Fr.drew ?_) | (with_reducible refine Fr.drN ?_ _) | (with_reducible refine Fr.alloc ?_ _) | (with_reducible refine Fr.set ?_ ?_ _) | (left; simp; done) | (right; simp; done) | (right; simp; omega))
theorem start_len (bf size : Nat) (w : World) (hu : 0 < w.heap.size) :
    Calls Tryd.prog 9 #[.pointer (some ⟨bf, 0, none⟩), .agg #[.int .u8 3, .int .u64 0]] w fun e w' => ∃ bp, e = .returned (.tuple #[.pointer (some ⟨bp, 0, none⟩), .int .i64 0]) ∧ w.heap.size ≤ bp ∧ PM w' bp bf size ⟨3, 0, 0, 0, 0, false, 0, 0, 0⟩ ∧ Fr [] w w' := by
  go_enter Tryd.func9, Tryd.ntmps9
  go_wp2
  go_ret2
  refine ⟨w.heap.size + 1, rfl, by omega, ⟨⟨0, 0, ⟨?_, by omega⟩, fun _ h4 => by cases h4⟩, ⟨by simp, by simp, by simp, by simp, by simp⟩⟩, ?_⟩
  · refine Blk.cast (cs := #[.pointer (some ⟨bf, 0, none⟩), .int .u8 3, .int .u64 0, .func (.func 24) #[] #[], .int .u64 0, .bool false, .int .u64 0, .int .u64 0, .int .i64 0]) ?_ rfl
    repeat' (first | ((with_reducible refine Blk.mk0 _ _ _ _ ?_); first | (simp; done) | (simp; omega)) | (with_reducible refine Blk.drew ?_) | (with_reducible refine Blk.drN ?_ _) | (with_reducible refine Blk.set ?_ _ _) | (with_reducible refine Blk.other ?_ ?_ _) | (with_reducible refine Blk.alloc ?_ _) | (simp; done) | (simp; omega))
  · repeat' (first | (with_reducible exact Fr.refl _ _) | (with_reducible refine Fr.drew ?_) | (with_reducible refine Fr.drN ?_ _) | (with_reducible refine Fr.alloc ?_ _) | (with_reducible refine Fr.set ?_ ?_ _) | (left; simp; done) | (right; simp; done) | (right; simp; omega))
theorem frw2 {bp bw : Nat} {w wr w2 : World} (h : Fr [bp, bw] wr w2) (k : Fr [bw] w wr) (hb : w.heap.size ≤ bp) : Fr [bw] w w2 :=
  ⟨h.os.trans k.os, h.tape.trans k.tape, h.output.trans k.output, Nat.le_trans k.size h.size, fun i hi hs => (h.block i (Nat.lt_of_lt_of_le hi k.size) (by simp at hs; simp; omega)).trans (k.block i hi hs)⟩
/-- An operation as a whole: what the plain mathematics ends with. -/
theorem whole_any (n bf bc bw size : Nat) (l lf : List Int) (k x : Int) (p0 pf : M.Pn) (w : World) (h : Fd w bf bc bw size l) (hE : M.Ends size n l p0 lf pf)
    (hS : ∀ W, Fr [] w W → Calls Tryd.prog 9 #[.pointer (some ⟨bf, 0, none⟩), .agg #[.int .u8 k, .int .u64 x]] W fun e w' => ∃ bp, e = .returned (.tuple #[.pointer (some ⟨bp, 0, none⟩), .int .i64 0]) ∧ W.heap.size ≤ bp ∧ PM w' bp bf size p0 ∧ Fr [] W w') :
    Calls Tryd.prog 28 #[.pointer (some ⟨bf, 0, none⟩), .agg #[.int .u8 k, .int .u64 x]] w fun e w' => e = .returned (.tuple #[.agg #[.int .u64 pf.aAt, .int .u64 pf.aX], .int .i64 pf.why]) ∧ Fd w' bf bc bw size lf ∧ Fr [bw] w w' := by
  have hfl := h.f.lt
  have hcl := h.h.c.lt
  have hwl := h.h.d.lt
  have hul := h.h.u.lt
  have HS := Lib.hid hS
  have HE := Lib.hid hE
  clear hS hE
  go_enter Tryd.func28, Tryd.ntmps28
  go_wp2_with ((go_at_call 9); (with_reducible refine (HS.out _ ?_).mono ?_); (focus (repeat' (first | (with_reducible exact Fr.refl _ _) | (with_reducible refine Fr.drew ?_) | (with_reducible refine Fr.drN ?_ _) | (with_reducible refine Fr.alloc ?_ _) | (with_reducible refine Fr.set ?_ ?_ _) | (left; simp; done) | (right; simp; done) | (right; simp; omega)))); rintro e w1 ⟨bp, rfl, hbp, hPM, hF⟩; have hpl := hPM.lt)
  have hn1 : bp ≠ w.heap.size + 1 := by have := hbp; simp at this; omega
  have hbp2 : w.heap.size ≤ bp := by have := hbp; simp at this; omega
  go_loopg [] n (fun nq wr => ∃ l' p', Hid (M.Ends size nq l' p' lf pf) ∧ GG bf bc bw bp size l' p' wr ∧ Fr [bw] w wr ∧ Blk wr (w.heap.size + 1) #[.int .u64 0, .int .u64 0] 45)
  case atStart =>
    exact ⟨l, p0, HE, ⟨h.fr0 (by refine Fr.trans (a := w) ?_ hF; repeat' (first | (with_reducible exact Fr.refl _ _) | (with_reducible refine Fr.drew ?_) | (with_reducible refine Fr.drN ?_ _) | (with_reducible refine Fr.alloc ?_ _) | (with_reducible refine Fr.set ?_ ?_ _) | (left; simp; done) | (right; simp; done) | (right; simp; omega))), hPM⟩, (by refine Fr.trans (a := w) ?_ (hF.mono (by simp)); repeat' (first | (with_reducible exact Fr.refl _ _) | (with_reducible refine Fr.drew ?_) | (with_reducible refine Fr.drN ?_ _) | (with_reducible refine Fr.alloc ?_ _) | (with_reducible refine Fr.set ?_ ?_ _) | (left; simp; done) | (right; simp; done) | (right; simp; omega))), (by refine hF.blk ?_ (by simp); repeat' (first | ((with_reducible refine Blk.mk0 _ _ _ _ ?_); first | (simp; done) | (simp; omega)) | (with_reducible refine Blk.drew ?_) | (with_reducible refine Blk.drN ?_ _) | (with_reducible refine Blk.set ?_ _ _) | (with_reducible refine Blk.other ?_ ?_ _) | (with_reducible refine Blk.alloc ?_ _) | (simp; done) | (simp; omega)))⟩
  case round =>
    obtain ⟨l', p', HE', hG, hFr, hB⟩ := hrel
    obtain ⟨c1, c2, hPd, hcap⟩ := hG.2.ex
    cases gk with
    | zero =>
      obtain ⟨hd, rfl, rfl⟩ := HE'.out
      have hb1 := hB.cell
      have hb2 := hB.free
      have hb3 := hB.lt
      rw [hd] at hPd
      go_wp2_with (first | ((go_at_call 15); (with_reducible refine (done_any bp bf _ _ _ _ true _ _ _ _ hPd).mono ?_); rintro e w2 ⟨rfl, rfl⟩) | ((go_at_call 13); (with_reducible refine (answer_any bp bf _ _ _ _ true _ _ _ _ hPd).mono ?_); rintro e w2 ⟨rfl, hF2⟩; have hB2 := hF2.blk hB (by simp); have zb1 := hB2.cell; have zb2 := hB2.free; have zb3 := hB2.lt))
      refine bodyPost_ret (v := .tuple #[.agg #[.int .u64 p'.aAt, .int .u64 p'.aX], .int .i64 p'.why]) (by simp [results, Tryd.results28, go_sem, zb1, zb3]) rfl ⟨rfl, ?_, ?_⟩
      · have hG1 := hG.1.fr0 hF2
        repeat' (first | (with_reducible exact hG1) | (with_reducible refine Fd.dr ?_) | (with_reducible refine Fd.drN ?_ _) | (with_reducible refine Fd.al ?_ _) | (with_reducible refine Fd.st ?_ _ ?_ ?_ ?_ ?_) | (simp; done) | (simp; omega))
      · replace hF2 := hFr.trans (hF2.mono (by simp))
        repeat' (first | (with_reducible exact hF2) | (with_reducible refine Fr.drew ?_) | (with_reducible refine Fr.drN ?_ _) | (with_reducible refine Fr.alloc ?_ _) | (with_reducible refine Fr.set ?_ ?_ _) | (left; simp; done) | (right; simp; done) | (right; simp; omega))
    | succ n1 =>
      obtain ⟨hd, hw, hE1⟩ := HE'.out
      have HE1 := Lib.hid hE1
      clear hE1
      have hst := step_model bf bc bw bp size l' p' wr hG.1 hG.2 hw hd
      have HST := Lib.hid hst
      clear hst
      rw [hd] at hPd
      go_wp2_with (first | ((go_at_call 15); (with_reducible refine (done_any bp bf _ _ _ _ false _ _ _ _ hPd).mono ?_); rintro e w2 ⟨rfl, rfl⟩) | ((go_at_call 12); (with_reducible refine HST.out.mono ?_); rintro e w2 ⟨⟨v, rfl⟩, hG2, hF2⟩))
      go_roundg n1
      case rel =>
        exact ⟨_, _, HE1, hG2, frw2 hF2 hFr hbp2, hF2.blk hB (by simp; omega)⟩
      case measure => omega
end Go.Proofs.YthkmknnajbpjfaaDoor
