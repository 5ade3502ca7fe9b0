/- The package feed: Put, Take, Len, one after another. -/
import Derived.Test.YthkmknnajbpjfaaDoorStart
namespace Go.Proofs.YthkmknnajbpjfaaDoor
open Go.RowKit
set_option maxRecDepth 100000
set_option linter.unusedVariables false
set_option linter.unusedSimpArgs false
set_option maxHeartbeats 2000000
/-- A feed that is still: what was taken of it, and what is in it. -/
structure QW (w : World) (bf bc bw size : Nat) (head : Int) (q : List Int) : Prop where
  ex : ∃ l, Fd w bf bc bw size l ∧ M.Q size head q l
theorem QW.fr {S : List Nat} {w w' : World} {bf bc bw size : Nat} {head : Int} {q : List Int} (h : QW w bf bc bw size head q) (f : Fr S w w') (h0 : bf ∉ S) (h1 : bc ∉ S) (h2 : bw ∉ S) (h3 : 0 ∉ S) : QW w' bf bc bw size head q := by
  obtain ⟨l, hf, hq⟩ := h.ex
  exact ⟨l, hf.fr f h0 h1 h2 h3, hq⟩
theorem QW.fr0 {w w' : World} {bf bc bw size : Nat} {head : Int} {q : List Int} (h : QW w bf bc bw size head q) (f : Fr [] w w') : QW w' bf bc bw size head q := h.fr f (by simp) (by simp) (by simp) (by simp)
theorem QW.al {w : World} {bf bc bw size : Nat} {head : Int} {q : List Int} (h : QW w bf bc bw size head q) (o : Obj) : QW (w.alloc o) bf bc bw size head q := h.fr0 ((Fr.refl _ _).alloc _)
theorem QW.lt {w : World} {bf bc bw size : Nat} {head : Int} {q : List Int} (h : QW w bf bc bw size head q) : bf < w.heap.size ∧ bc < w.heap.size ∧ bw < w.heap.size ∧ 0 < w.heap.size ∧ 2 ≤ size := by
  obtain ⟨l, hf, _⟩ := h.ex
  exact ⟨hf.f.lt, hf.h.c.lt, hf.h.d.lt, hf.h.u.lt, hf.lo⟩
theorem put_c_full (bf bc bw size : Nat) (head : Int) (q : List Int) (x : Int) (hx : 0 ≤ x ∧ x < 18446744073709551616) (w : World) (h : QW w bf bc bw size head q) (hfull : q.length = size) :
    Calls Tryd.prog 16 #[.pointer (some ⟨bf, 0, none⟩), .int .u64 x] w fun e w' => e = .returned (.tuple #[.int .u64 (0), .int .i64 51]) ∧ QW w' bf bc bw size head q ∧ Fr [bw] w w' := by
  have hlt := h.lt
  obtain ⟨l, hf, hq⟩ := h.ex
  have hs := hf.lo
  have hE := M.put_full hs hq hfull x
  have HE := Lib.hid hE
  clear hE h
  go_enter Tryd.func16, Tryd.ntmps16
  go_wp2_with ((go_at_call 28); (with_reducible refine (whole_any _ bf bc bw size l _ _ _ _ _ _ ?_ HE.out ?_).mono ?_); (focus (repeat' (first | (with_reducible exact hf) | (with_reducible refine Fd.dr ?_) | (with_reducible refine Fd.drN ?_ _) | (with_reducible refine Fd.al ?_ _) | (with_reducible refine Fd.st ?_ _ ?_ ?_ ?_ ?_) | (simp; done) | (simp; omega)))); (focus (intro W hW; refine start_put bf size x hx W ?_; (have := hW.size; (try simp at this); omega))); rintro e w1 ⟨rfl, hG, hF⟩; have hzz := hF.size; skip)
  go_ret2
  refine ⟨rfl, ⟨_, ?_, hq⟩, ?_⟩
  · repeat' (first | (with_reducible exact hG) | (with_reducible refine Fd.dr ?_) | (with_reducible refine Fd.drN ?_ _) | (with_reducible refine Fd.al ?_ _) | (with_reducible refine Fd.st ?_ _ ?_ ?_ ?_ ?_) | (simp; done) | (simp; omega))
  · replace hF : Fr [bw] w w1 := (by refine Fr.trans ?_ hF; repeat' (first | (with_reducible exact Fr.refl _ _) | (with_reducible refine Fr.drew ?_) | (with_reducible refine Fr.drN ?_ _) | (with_reducible refine Fr.alloc ?_ _) | (with_reducible refine Fr.set ?_ ?_ _) | (left; simp; done) | (right; simp; done) | (right; simp; omega)))
    repeat' (first | (with_reducible exact hF) | (with_reducible refine Fr.drew ?_) | (with_reducible refine Fr.drN ?_ _) | (with_reducible refine Fr.alloc ?_ _) | (with_reducible refine Fr.set ?_ ?_ _) | (left; simp; done) | (right; simp; done) | (right; simp; omega))
theorem put_c_ok (bf bc bw size : Nat) (head : Int) (q : List Int) (x : Int) (hx : 0 ≤ x ∧ x < 18446744073709551616) (w : World) (h : QW w bf bc bw size head q) (hroom : q.length < size) (hh : head + size + size + 1 < 18446744073709551616) :
    Calls Tryd.prog 16 #[.pointer (some ⟨bf, 0, none⟩), .int .u64 x] w fun e w' => e = .returned (.tuple #[.int .u64 (head + (q.length : Int)), .int .i64 0]) ∧ QW w' bf bc bw size head (q ++ [x]) ∧ Fr [bw] w w' := by
  have hlt := h.lt
  obtain ⟨l, hf, hq⟩ := h.ex
  have hs := hf.lo
  obtain ⟨lf, hE, hq2⟩ := M.put_ok hs hq hroom x hx hh
  have HE := Lib.hid hE
  clear hE h
  go_enter Tryd.func16, Tryd.ntmps16
  go_wp2_with ((go_at_call 28); (with_reducible refine (whole_any _ bf bc bw size l _ _ _ _ _ _ ?_ HE.out ?_).mono ?_); (focus (repeat' (first | (with_reducible exact hf) | (with_reducible refine Fd.dr ?_) | (with_reducible refine Fd.drN ?_ _) | (with_reducible refine Fd.al ?_ _) | (with_reducible refine Fd.st ?_ _ ?_ ?_ ?_ ?_) | (simp; done) | (simp; omega)))); (focus (intro W hW; refine start_put bf size x hx W ?_; (have := hW.size; (try simp at this); omega))); rintro e w1 ⟨rfl, hG, hF⟩; have hzz := hF.size; skip)
  go_ret2
  refine ⟨rfl, ⟨_, ?_, hq2⟩, ?_⟩
  · repeat' (first | (with_reducible exact hG) | (with_reducible refine Fd.dr ?_) | (with_reducible refine Fd.drN ?_ _) | (with_reducible refine Fd.al ?_ _) | (with_reducible refine Fd.st ?_ _ ?_ ?_ ?_ ?_) | (simp; done) | (simp; omega))
  · replace hF : Fr [bw] w w1 := (by refine Fr.trans ?_ hF; repeat' (first | (with_reducible exact Fr.refl _ _) | (with_reducible refine Fr.drew ?_) | (with_reducible refine Fr.drN ?_ _) | (with_reducible refine Fr.alloc ?_ _) | (with_reducible refine Fr.set ?_ ?_ _) | (left; simp; done) | (right; simp; done) | (right; simp; omega)))
    repeat' (first | (with_reducible exact hF) | (with_reducible refine Fr.drew ?_) | (with_reducible refine Fr.drN ?_ _) | (with_reducible refine Fr.alloc ?_ _) | (with_reducible refine Fr.set ?_ ?_ _) | (left; simp; done) | (right; simp; done) | (right; simp; omega))
theorem take_c_none (bf bc bw size : Nat) (head : Int) (q : List Int) (w : World) (h : QW w bf bc bw size head q) (hfull : q.length = 0) :
    Calls Tryd.prog 17 #[.pointer (some ⟨bf, 0, none⟩)] w fun e w' => e = .returned (.tuple #[.agg #[.int .u64 (0), .int .u64 (0)], .int .i64 110]) ∧ QW w' bf bc bw size head q ∧ Fr [bw] w w' := by
  have hlt := h.lt
  obtain ⟨l, hf, hq⟩ := h.ex
  have hs := hf.lo
  have hE := M.take_none hs hq hfull
  have HE := Lib.hid hE
  clear hE h
  go_enter Tryd.func17, Tryd.ntmps17
  go_wp2_with ((go_at_call 28); (with_reducible refine (whole_any _ bf bc bw size l _ _ _ _ _ _ ?_ HE.out ?_).mono ?_); (focus (repeat' (first | (with_reducible exact hf) | (with_reducible refine Fd.dr ?_) | (with_reducible refine Fd.drN ?_ _) | (with_reducible refine Fd.al ?_ _) | (with_reducible refine Fd.st ?_ _ ?_ ?_ ?_ ?_) | (simp; done) | (simp; omega)))); (focus (intro W hW; refine start_take bf size W ?_; (have := hW.size; (try simp at this); omega))); rintro e w1 ⟨rfl, hG, hF⟩; have hzz := hF.size; have hB : Blk w1 w.heap.size #[.int .u64 0, .int .u64 0] 45 := (by refine hF.blk ?_ ?_; (focus (repeat' (first | ((with_reducible refine Blk.mk0 _ _ _ _ ?_); first | (simp; done) | (simp; omega)) | (with_reducible refine Blk.drew ?_) | (with_reducible refine Blk.drN ?_ _) | (with_reducible refine Blk.set ?_ _ _) | (with_reducible refine Blk.other ?_ ?_ _) | (with_reducible refine Blk.alloc ?_ _) | (simp; done) | (simp; omega)))); (first | (simp; done) | (simp; omega))); have zb1 := hB.cell; have zb2 := hB.free; have zb3 := hB.lt)
  refine bodyPost_ret (v := .tuple #[.agg #[.int .u64 (0), .int .u64 (0)], .int .i64 110]) (by simp [results, Tryd.results17, go_sem, zb1, zb3]) rfl ⟨rfl, ⟨_, ?_, hq⟩, ?_⟩
  · repeat' (first | (with_reducible exact hG) | (with_reducible refine Fd.dr ?_) | (with_reducible refine Fd.drN ?_ _) | (with_reducible refine Fd.al ?_ _) | (with_reducible refine Fd.st ?_ _ ?_ ?_ ?_ ?_) | (simp; done) | (simp; omega))
  · replace hF : Fr [bw] w w1 := (by refine Fr.trans ?_ hF; repeat' (first | (with_reducible exact Fr.refl _ _) | (with_reducible refine Fr.drew ?_) | (with_reducible refine Fr.drN ?_ _) | (with_reducible refine Fr.alloc ?_ _) | (with_reducible refine Fr.set ?_ ?_ _) | (left; simp; done) | (right; simp; done) | (right; simp; omega)))
    repeat' (first | (with_reducible exact hF) | (with_reducible refine Fr.drew ?_) | (with_reducible refine Fr.drN ?_ _) | (with_reducible refine Fr.alloc ?_ _) | (with_reducible refine Fr.set ?_ ?_ _) | (left; simp; done) | (right; simp; done) | (right; simp; omega))
theorem take_c_ok (bf bc bw size : Nat) (head : Int) (q : List Int) (w : World) (h : QW w bf bc bw size head q) (v : Int) (hv : q.getD 0 0 = v) (hsome : 0 < q.length) (hh : head + 1 + size + size < 18446744073709551616) :
    Calls Tryd.prog 17 #[.pointer (some ⟨bf, 0, none⟩)] w fun e w' => e = .returned (.tuple #[.agg #[.int .u64 (head), .int .u64 (v)], .int .i64 0]) ∧ QW w' bf bc bw size (head + 1) q.tail ∧ Fr [bw] w w' := by
  have hlt := h.lt
  obtain ⟨l, hf, hq⟩ := h.ex
  have hs := hf.lo
  obtain ⟨lf, hE, hq2⟩ := M.take_ok hs hq hsome hh
  rw [hv] at hE
  clear hv hsome
  have HE := Lib.hid hE
  clear hE h
  go_enter Tryd.func17, Tryd.ntmps17
  go_wp2_with ((go_at_call 28); (with_reducible refine (whole_any _ bf bc bw size l _ _ _ _ _ _ ?_ HE.out ?_).mono ?_); (focus (repeat' (first | (with_reducible exact hf) | (with_reducible refine Fd.dr ?_) | (with_reducible refine Fd.drN ?_ _) | (with_reducible refine Fd.al ?_ _) | (with_reducible refine Fd.st ?_ _ ?_ ?_ ?_ ?_) | (simp; done) | (simp; omega)))); (focus (intro W hW; refine start_take bf size W ?_; (have := hW.size; (try simp at this); omega))); rintro e w1 ⟨rfl, hG, hF⟩; have hzz := hF.size; have hB : Blk w1 w.heap.size #[.int .u64 0, .int .u64 0] 45 := (by refine hF.blk ?_ ?_; (focus (repeat' (first | ((with_reducible refine Blk.mk0 _ _ _ _ ?_); first | (simp; done) | (simp; omega)) | (with_reducible refine Blk.drew ?_) | (with_reducible refine Blk.drN ?_ _) | (with_reducible refine Blk.set ?_ _ _) | (with_reducible refine Blk.other ?_ ?_ _) | (with_reducible refine Blk.alloc ?_ _) | (simp; done) | (simp; omega)))); (first | (simp; done) | (simp; omega))); have zb1 := hB.cell; have zb2 := hB.free; have zb3 := hB.lt)
  refine bodyPost_ret (v := .tuple #[.agg #[.int .u64 (head), .int .u64 (v)], .int .i64 0]) (by simp [results, Tryd.results17, go_sem, zb1, zb3]) rfl ⟨rfl, ⟨_, ?_, hq2⟩, ?_⟩
  · repeat' (first | (with_reducible exact hG) | (with_reducible refine Fd.dr ?_) | (with_reducible refine Fd.drN ?_ _) | (with_reducible refine Fd.al ?_ _) | (with_reducible refine Fd.st ?_ _ ?_ ?_ ?_ ?_) | (simp; done) | (simp; omega))
  · replace hF : Fr [bw] w w1 := (by refine Fr.trans ?_ hF; repeat' (first | (with_reducible exact Fr.refl _ _) | (with_reducible refine Fr.drew ?_) | (with_reducible refine Fr.drN ?_ _) | (with_reducible refine Fr.alloc ?_ _) | (with_reducible refine Fr.set ?_ ?_ _) | (left; simp; done) | (right; simp; done) | (right; simp; omega)))
    repeat' (first | (with_reducible exact hF) | (with_reducible refine Fr.drew ?_) | (with_reducible refine Fr.drN ?_ _) | (with_reducible refine Fr.alloc ?_ _) | (with_reducible refine Fr.set ?_ ?_ _) | (left; simp; done) | (right; simp; done) | (right; simp; omega))
theorem len_c (bf bc bw size : Nat) (head : Int) (q : List Int) (w : World) (h : QW w bf bc bw size head q) :
    Calls Tryd.prog 18 #[.pointer (some ⟨bf, 0, none⟩)] w fun e w' => e = .returned (.int .u64 (q.length : Int)) ∧ QW w' bf bc bw size head q ∧ Fr [bw] w w' := by
  have hlt := h.lt
  obtain ⟨l, hf, hq⟩ := h.ex
  have hs := hf.lo
  have hE := M.len_ends hs hq
  have HE := Lib.hid hE
  clear hE h
  go_enter Tryd.func18, Tryd.ntmps18
  go_wp2_with ((go_at_call 28); (with_reducible refine (whole_any _ bf bc bw size l _ _ _ _ _ _ ?_ HE.out ?_).mono ?_); (focus (repeat' (first | (with_reducible exact hf) | (with_reducible refine Fd.dr ?_) | (with_reducible refine Fd.drN ?_ _) | (with_reducible refine Fd.al ?_ _) | (with_reducible refine Fd.st ?_ _ ?_ ?_ ?_ ?_) | (simp; done) | (simp; omega)))); (focus (intro W hW; refine start_len bf size W ?_; (have := hW.size; (try simp at this); omega))); rintro e w1 ⟨rfl, hG, hF⟩; have hzz := hF.size; skip)
  go_ret
  refine ⟨rfl, ⟨_, ?_, hq⟩, ?_⟩
  · repeat' (first | (with_reducible exact hG) | (with_reducible refine Fd.dr ?_) | (with_reducible refine Fd.drN ?_ _) | (with_reducible refine Fd.al ?_ _) | (with_reducible refine Fd.st ?_ _ ?_ ?_ ?_ ?_) | (simp; done) | (simp; omega))
  · replace hF : Fr [bw] w w1 := (by refine Fr.trans ?_ hF; repeat' (first | (with_reducible exact Fr.refl _ _) | (with_reducible refine Fr.drew ?_) | (with_reducible refine Fr.drN ?_ _) | (with_reducible refine Fr.alloc ?_ _) | (with_reducible refine Fr.set ?_ ?_ _) | (left; simp; done) | (right; simp; done) | (right; simp; omega)))
    repeat' (first | (with_reducible exact hF) | (with_reducible refine Fr.drew ?_) | (with_reducible refine Fr.drN ?_ _) | (with_reducible refine Fr.alloc ?_ _) | (with_reducible refine Fr.set ?_ ?_ _) | (left; simp; done) | (right; simp; done) | (right; simp; omega))
end Go.Proofs.YthkmknnajbpjfaaDoor
