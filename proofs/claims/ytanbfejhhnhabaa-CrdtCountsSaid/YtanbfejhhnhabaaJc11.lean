/- The package crdt: the law's first question. -/
import Derived.Test.YtanbfejhhnhabaaJc10
import Derived.Test.YtanbfejhhnhabaaJc6
import Derived.Test.YtanbfejhhnhabaaJc5
import Derived.Test.YtanbfejhhnhabaaPCrdtLatticex1
/- The reference's Take. -/
namespace Go.Proofs.Ytanbfejhhnhabaa
open Go.RowKit Go.Maps Go.Sort
set_option maxRecDepth 100000
set_option linter.unusedVariables false
set_option linter.unusedSimpArgs false
set_option maxHeartbeats 4000000
theorem rtake_any (v vm : Value) (l m : List Nd) (nm : ByteArray) (w : World) (h : RN w v l) (hm : RN w vm m) (ha : Arg l) (hb : Arg m) :
    Calls Try.prog 14 #[.agg #[.string nm, v], vm] w (BookPost nm v l (takeF l m) w) := by
  have H := Lib.hid h
  have HM := Lib.hid hm
  have HA := Lib.hid ha
  have HB := Lib.hid hb
  obtain ⟨pa, pc, e⟩ := h.at_
  subst e
  obtain ⟨qa, qc, e⟩ := hm.at_
  subst e
  clear h hm ha hb
  have hF0 : Fr [] w ((w.alloc (.cells #[.string nm, .slice pa l.length pc] 35)).alloc (.cells #[.string ByteArray.empty, .slice none 0 0] 35)) := ((Fr.refl _ _).alloc _).alloc _
  have HF0 := Lib.hid hF0
  clear hF0
  obtain ⟨r, y, hry⟩ : ∃ r y, mergeF l m = (r, y) := ⟨_, _, rfl⟩
  have HRY := Lib.hid hry
  clear hry
  go_enter Try.func14, Try.ntmps14
  go_wp2_with fail
  go_at_call 9
  refine (rmerge_any _ _ l m _ (H.out.fr0 HF0.out) (HM.out.fr0 HF0.out) HA.out HB.out).mono ?_
  rintro e w1 ⟨v1, rfl, hS1, hF1⟩
  rw [HRY.out] at hS1 ⊢
  have hbc := hF1.blk ((Blk.new w #[.string nm, .slice pa l.length pc] 35).alloc (.cells #[.string ByteArray.empty, .slice none 0 0] 35)) (by simp)
  have hbr := hF1.blk (Blk.mk0 (w.alloc (.cells #[.string nm, .slice pa l.length pc] 35)) #[.string ByteArray.empty, .slice none 0 0] 35 (w.heap.size + 1) (by simp)) (by simp)
  have kc1 := hbc.cell
  have kc2 := hbc.free
  have kc3 := hbc.lt
  have kr1 := hbr.cell
  have kr2 := hbr.free
  have kr3 := hbr.lt
  have HF1 := Lib.hid (HF0.out.trans hF1)
  have HS1 := Lib.hid hS1
  have hz1 := HF1.out.size
  obtain ⟨ra, rc, e1⟩ := hS1.at_
  subst e1
  clear hF1 hS1
  by_cases hy : y = 0
  · subst hy
    have e : takeF l m = (r, 0) := by unfold takeF; rw [HRY.out]; rfl
    have E := Lib.hid e
    clear e
    go_wp2_with fail
    refine bodyPost_ret (v := .tuple #[.agg #[.string nm, .slice ra r.length rc], .int .i64 0]) (by simp [results, Try.results14, go_sem, *]) rfl ?_
    exact BookPost.new E.out ((HS1.out.frb (S := [w.heap.size, w.heap.size + 1]) (by repeat' (first | (with_reducible exact Fr.refl _ _) | (with_reducible refine Fr.drew ?_) | (with_reducible refine Fr.drN ?_ _) | (with_reducible refine Fr.alloc ?_ _) | (with_reducible refine Fr.set ?_ ?_ _) | (left; simp; done) | (right; simp; done) | (right; simp; omega))) (by intro b hb; simp at hb ⊢; omega)).base_le (by simp; try omega)) (by repeat' (first | (with_reducible exact HF1.out) | (with_reducible refine Fr.drew ?_) | (with_reducible refine Fr.drN ?_ _) | (with_reducible refine Fr.alloc ?_ _) | (with_reducible refine Fr.set ?_ ?_ _) | (left; simp; done) | (right; simp; done) | (right; simp; omega)))
  · have e : takeF l m = (l, y) := by unfold takeF; rw [HRY.out]; simp [hy]
    have E := Lib.hid e
    have hy2 : (y == 0) = false := by simpa using hy
    clear e
    go_wp2_with fail
    refine bodyPost_ret (v := .tuple #[.agg #[.string nm, .slice pa l.length pc], .int .i64 y]) (by simp [results, Try.results14, go_sem, *]) rfl ?_
    exact BookPost.same E.out (by repeat' (first | (with_reducible exact HF1.out) | (with_reducible refine Fr.drew ?_) | (with_reducible refine Fr.drN ?_ _) | (with_reducible refine Fr.alloc ?_ _) | (with_reducible refine Fr.set ?_ ?_ _) | (left; simp; done) | (right; simp; done) | (right; simp; omega)))
end Go.Proofs.Ytanbfejhhnhabaa

/- The package crdt: Add and Sub. -/
namespace Go.Proofs.Ytanbfejhhnhabaa
open Go.RowKit Go.Maps Go.Sort
set_option maxRecDepth 100000
set_option linter.unusedVariables false
set_option linter.unusedSimpArgs false
set_option maxHeartbeats 8000000
theorem add_any (bc b : Nat) (nm : ByteArray) (l : List Nd) (n : Int) (w : World) (h : CT w bc b 0 nm l) (h0 : 0 ≤ n) (h1 : n < 18446744073709551616) :
    Calls Try.prog 12 #[.pointer (some ⟨bc, 0, none⟩), .int .u64 n] w (CountPost bc b l nm n 0 w) := by
  have H := Lib.hid h
  clear h
  go_enter Try.func12, Try.ntmps12
  go_wp2_with ((go_at_call 37); (with_reducible refine (count_any bc b nm l n 0 _ H.out h0 h1 (by omega) (by omega)).mono ?_); rintro e w1 ⟨rfl, hC, hF⟩)
  go_ret
  exact ⟨rfl, hC, hF⟩
theorem sub_any (bc b : Nat) (nm : ByteArray) (l : List Nd) (n : Int) (w : World) (h : CT w bc b 0 nm l) (h0 : 0 ≤ n) (h1 : n < 18446744073709551616) :
    Calls Try.prog 13 #[.pointer (some ⟨bc, 0, none⟩), .int .u64 n] w (CountPost bc b l nm 0 n w) := by
  have H := Lib.hid h
  clear h
  go_enter Try.func13, Try.ntmps13
  go_wp2_with ((go_at_call 37); (with_reducible refine (count_any bc b nm l 0 n _ H.out (by omega) (by omega) h0 h1).mono ?_); rintro e w1 ⟨rfl, hC, hF⟩)
  go_ret
  exact ⟨rfl, hC, hF⟩
end Go.Proofs.Ytanbfejhhnhabaa

namespace Go.Proofs.Ytanbfejhhnhabaa
open Go.RowKit Go.Maps Go.Sort
set_option maxRecDepth 100000
set_option linter.unusedVariables false
set_option linter.unusedSimpArgs false
set_option maxHeartbeats 400000
theorem RN.blk {w : World} {b : Nat} {l : List Nd} {t : TypeId} (h : Blk w b (flat3 l).toArray t) (hl : l.length ≤ maxLen) : RN w (.slice (some ⟨b, 0, none⟩) l.length l.length) l :=
  ⟨flat3_len l, .inr ⟨b, 0, l.length, rfl, h.lt, Nat.le_refl _, hl, fun j u hj => by rw [Nat.zero_add, h.cell j]; simpa using hj⟩⟩
abbrev nA : ByteArray := ⟨#[97]⟩
abbrev nB : ByteArray := ⟨#[98]⟩
abbrev nC : ByteArray := ⟨#[99]⟩
abbrev nX : ByteArray := ⟨#[120]⟩
abbrev l1_ : List Nd := [(nA, 3, 0), (nB, 1, 1)]
abbrev l2_ : List Nd := [(nA, 2, 5), (nC, 1, 0)]
abbrev l3_ : List Nd := [(nA, 3, 5), (nB, 1, 1), (nC, 1, 0)]
theorem lv_merge : mergeF l1_ l2_ = (l3_, 0) := by kernel_rfl
theorem lv_value : valueF l3_ = (-1, 0) := by kernel_rfl
theorem lv_name : nameF nX = true := by kernel_rfl
theorem lv_c1 : countF [] nX 5 0 = ([(nX, 5, 0)], 0) := by kernel_rfl
theorem lv_c2 : countF [(nX, 5, 0)] nX 0 7 = ([(nX, 5, 7)], 0) := by kernel_rfl
theorem lv_v : valL [(nX, 5, 7)] = -2 := by kernel_rfl
theorem lv_a1 : Arg l1_ := Good.arg (right_good (by kernel_rfl)) (by simp [Pos]) (by simp)
theorem lv_a2 : Arg l2_ := Good.arg (right_good (by kernel_rfl)) (by simp [Pos]) (by simp)
theorem lv_a3 : Arg l3_ := Good.arg (right_good (by kernel_rfl)) (by simp [Pos]) (by simp)
theorem lv_r1 (w : World) (o : Obj) : RN ((w.alloc (.cells #[.string nA, .int .u64 3, .int .u64 0, .string nB, .int .u64 1, .int .u64 1] 33)).alloc o) (.slice (some ⟨w.heap.size, 0, none⟩) 2 2) l1_ :=
  RN.blk (l := l1_) (t := 33) ((Blk.new w #[.string nA, .int .u64 3, .int .u64 0, .string nB, .int .u64 1, .int .u64 1] 33).alloc o) (by show 2 ≤ maxLen; unfold maxLen; omega)
theorem lv_r2 (w : World) : RN (w.alloc (.cells #[.string nA, .int .u64 2, .int .u64 5, .string nC, .int .u64 1, .int .u64 0] 33)) (.slice (some ⟨w.heap.size, 0, none⟩) 2 2) l2_ :=
  RN.blk (l := l2_) (t := 33) (Blk.new w #[.string nA, .int .u64 2, .int .u64 5, .string nC, .int .u64 1, .int .u64 0] 33) (by show 2 ≤ maxLen; unfold maxLen; omega)
theorem lv_merge_any (w : World) : Calls Try.prog 20 #[.slice (some ⟨w.heap.size, 0, none⟩) 2 2, .slice (some ⟨w.heap.size + 1, 0, none⟩) 2 2] ((w.alloc (.cells #[.string nA, .int .u64 3, .int .u64 0, .string nB, .int .u64 1, .int .u64 1] 33)).alloc (.cells #[.string nA, .int .u64 2, .int .u64 5, .string nC, .int .u64 1, .int .u64 0] 33))
    fun e w' => ∃ g o c, e = .returned (.tuple #[.slice (some ⟨g, o, none⟩) 3 c, .int .i64 0]) ∧ RN w' (.slice (some ⟨g, o, none⟩) 3 c) l3_ ∧ 3 ≤ c ∧ g < w'.heap.size ∧
      w'.cell? ⟨g, o, none⟩ = some (.string nA) ∧ w'.cell? ⟨g, o + 1, none⟩ = some (.int .u64 3) ∧ w'.cell? ⟨g, o + 2, none⟩ = some (.int .u64 5) ∧ Fr [] w w' := by
  have h2 := lv_r2 (w.alloc (.cells #[.string nA, .int .u64 3, .int .u64 0, .string nB, .int .u64 1, .int .u64 1] 33))
  have e : (w.alloc (.cells #[.string nA, .int .u64 3, .int .u64 0, .string nB, .int .u64 1, .int .u64 1] 33)).heap.size = w.heap.size + 1 := Array.size_push _
  rw [e] at h2
  refine (merge_any _ _ l1_ l2_ _ (lv_r1 w _) h2 lv_a1 lv_a2).mono ?_
  rintro e w1 ⟨v1, rfl, hS1, hF1⟩
  rw [lv_merge] at hS1 ⊢
  obtain ⟨g, o, c, rfl, g1, g2, g3, g4, g5⟩ := hS1.cells (by simp)
  exact ⟨g, o, c, rfl, hS1.rd, g3, g2, g5 0 _ rfl, g5 1 _ rfl, g5 2 _ rfl, (((Fr.refl [] w).alloc _).alloc _).trans hF1⟩
theorem lv_cells {w : World} {g o c : Nat} (h : RN w (.slice (some ⟨g, o, none⟩) 3 c) l3_) : 3 ≤ c ∧ g < w.heap.size ∧ w.cell? ⟨g, o, none⟩ = some (.string nA) ∧ w.cell? ⟨g, o + 1, none⟩ = some (.int .u64 3) ∧ w.cell? ⟨g, o + 2, none⟩ = some (.int .u64 5) := by
  obtain ⟨g', o', c', he, g2, g3, g4, g5⟩ := RD.cells h (by simp)
  simp only [Value.slice.injEq, Option.some.injEq, Addr.mk.injEq] at he
  obtain ⟨⟨rfl, rfl, -⟩, -, rfl⟩ := he
  exact ⟨g3, g2, g5 0 _ rfl, g5 1 _ rfl, g5 2 _ rfl⟩
theorem lives_any (w : World) :
    Calls Try.prog 8 #[] w fun e w' => e = .returned (.bool true) ∧ Fr [] w w' := by
  have heq : ∀ (W : World) (s s' : ByteArray) (u d u' d' : Int), (binOp .eql 33 (.agg #[.string s, .int .u64 u, .int .u64 d]) (.agg #[.string s', .int .u64 u', .int .u64 d'])).run Try.prog W = .ok (.bool (s.toList == s'.toList && (u == u' && (d == d')))) W := fun W s s' u d u' d' => by
    simp only [binOp]
    simp [Op.equal, Op.maxDepth, Ytanbfejhhnhabaa.PCrdtLattice.eqA33 9998 W s s' u u' d d', Sem.run]
  go_enter Try.func8, Try.ntmps8
  go_wp2_with fail
  go_at_call 20
  refine (lv_merge_any w).mono ?_
  rintro e w1 ⟨g, o, c, rfl, hR1, -, -, -, -, -, hF1⟩
  have HR1 := Lib.hid hR1
  have HF1 := Lib.hid hF1
  clear hR1 hF1
  go_wp2_with fail
  go_at_call 24
  refine (cvalue_any _ l3_ _ HR1.out lv_a3).mono ?_
  rintro e w2 ⟨rfl, hF2⟩
  rw [lv_value]
  have HR2 := Lib.hid (HR1.out.fr0 hF2)
  have HF2 := Lib.hid (HF1.out.trans hF2)
  clear hF2
  go_wp2_with fail
  go_at_call 7
  refine (new_ok nX _ lv_name).mono ?_
  rintro e w3 ⟨bc, b, rfl, hC3, hb1, hb2, hF3⟩
  obtain ⟨q1, q2, q3, q4, q5⟩ := lv_cells (HR2.out.fr0 hF3)
  have HF3 := Lib.hid (HF2.out.trans hF3)
  have HC3 := Lib.hid hC3
  have hz2 := HF2.out.size
  clear hF3 hC3
  go_wp2_with fail
  go_at_call 12
  refine (add_any bc b nX [] 5 _ HC3.out (by omega) (by omega)).mono ?_
  rintro e w4 ⟨rfl, hC4, hF4⟩
  rw [lv_c1] at hC4 ⊢
  have HC4 := Lib.hid hC4
  have HF4 := Lib.hid hF4
  clear hC4 hF4
  go_wp2_with fail
  go_at_call 13
  refine (sub_any bc b nX [(nX, 5, 0)] 7 _ HC4.out (by omega) (by omega)).mono ?_
  rintro e w5 ⟨rfl, hC5, hF5⟩
  rw [lv_c2] at hC5 ⊢
  have HC5 := Lib.hid hC5
  have HF5 := Lib.hid (HF4.out.trans hF5)
  clear hC5 hF5
  go_wp2_with fail
  go_at_call 19
  refine (cval_any bc b nX [(nX, 5, 7)] _ HC5.out).mono ?_
  rintro e w6 ⟨rfl, -, hF6⟩
  rw [lv_v]
  have HF6 := Lib.hid (HF5.out.trans (hF6.mono (by simp)))
  clear hF6
  go_wp2_with fail
  go_ret
  refine ⟨rfl, ((HF3.out.mono (by simp)).trans HF6.out).weaken ?_⟩
  intro z hz
  simp at hz
  right
  omega
end Go.Proofs.Ytanbfejhhnhabaa
