/- The package crdt: Take. -/
import Derived.Test.YtanbfejhhnhabaaJc7
import Derived.Test.YtanbfejhhnhabaaJc9
import Derived.Test.YtanbfejhhnhabaaJc5
import Derived.Test.YtanbfejhhnhabaaJc6
/- The reference's Add. -/
namespace Go.Proofs.Ytanbfejhhnhabaa
open Go.RowKit Go.Maps Go.Sort
set_option maxRecDepth 100000
set_option linter.unusedVariables false
set_option linter.unusedSimpArgs false
set_option maxHeartbeats 4000000
/-- What the reference's counter is behind an Add or a Take. -/
def BookPost (nm : ByteArray) (v : Value) (l : List Nd) (r : List Nd × Int) (w : World) (e : Ending) (w' : World) : Prop :=
  ∃ v', e = .returned (.tuple #[.agg #[.string nm, v'], .int .i64 r.2]) ∧ (v' = v ∧ r.1 = l ∨ SN w' w.heap.size v' r.1) ∧ Fr [] w w'
theorem BookPost.same {nm : ByteArray} {v : Value} {l : List Nd} {r : List Nd × Int} {y : Int} {w w' : World} (h : r = (l, y)) (hF : Fr [] w w') : BookPost nm v l r w (.returned (.tuple #[.agg #[.string nm, v], .int .i64 y])) w' :=
  ⟨v, by rw [h], .inl ⟨rfl, by rw [h]⟩, hF⟩
theorem BookPost.new {nm : ByteArray} {v v' : Value} {l l' : List Nd} {r : List Nd × Int} {y : Int} {w w' : World} (h : r = (l', y)) (hS : SN w' w.heap.size v' l') (hF : Fr [] w w') : BookPost nm v l r w (.returned (.tuple #[.agg #[.string nm, v'], .int .i64 y])) w' :=
  ⟨v', by rw [h], .inr (by rw [h]; exact hS), hF⟩
theorem radd0 (v : Value) (l : List Nd) (nm : ByteArray) (n : Int) (w : World) (h : RN w v l) (hs : Srt l) (hl : l.length ≤ 64) (hb : Bnd l) (hn0 : 0 ≤ n) (hn1 : n < 18446744073709551616) :
    Calls Try.prog 11 #[.agg #[.string nm, v], .int .u64 n, .bool false] w (BookPost nm v l (raddF l nm n false) w) := by
  obtain ⟨u, d, hud⟩ : ∃ u d, ofL l nm = (u, d) := ⟨_, _, rfl⟩
  obtain ⟨is_, his⟩ : ∃ i, i = (lk l nm).isSome := ⟨_, rfl⟩
  have hbd := ofL_bd hb nm
  rw [hud] at hbd
  obtain ⟨hu0, hu1, hd0, hd1⟩ := hbd
  simp only at hu0 hu1 hd0 hd1
  have hf : ∀ W, RN W v l → Calls Try.prog 32 #[v, .string nm] W fun e w' => e = .returned (.tuple #[ndV nm u d, .bool is_]) ∧ Fr [] W w' := fun W hW => by
    have := find_any v l nm W hW
    rwa [hud, ← his] at this
  obtain ⟨R, hr⟩ : ∃ R, R = raddF l nm n false := ⟨_, rfl⟩
  rw [← hr]
  unfold raddF at hr
  rw [hud, ← his] at hr
  simp only [Bool.false_eq_true, Bool.true_eq_false, if_false, if_true, false_and, true_and, or_false, false_or, eq_self, and_true] at hr
  have HFi := Lib.hid hf
  have H := Lib.hid h
  have HSr := Lib.hid hs
  obtain ⟨pa, pc, e⟩ := h.at_
  subst e
  clear h hf his hud hs hb
  have hF0 : Fr [] w ((w.alloc (.cells #[.string nm, .slice pa l.length pc] 35)).alloc (.cells #[.string ByteArray.empty, .slice none 0 0] 35)) := ((Fr.refl _ _).alloc _).alloc _
  have HF0 := Lib.hid hF0
  clear hF0
  by_cases c1 : 72057594037927936 < n
  · rw [if_pos (c := 72057594037927936 < n ∨ 72057594037927936 < u + n) (by omega)] at hr
    have HR := Lib.hid hr
    clear hr
    go_enter Try.func11, Try.ntmps11
    go_wp2_with fail
    go_at_call 32
    refine (HFi.out _ (H.out.fr0 HF0.out)).mono ?_
    rintro e w1 ⟨rfl, hF1⟩
    have hbc := hF1.blk ((Blk.new w #[.string nm, .slice pa l.length pc] 35).alloc (.cells #[.string ByteArray.empty, .slice none 0 0] 35)) (by simp)
    have hbr := hF1.blk (Blk.mk0 (w.alloc (.cells #[.string nm, .slice pa l.length pc] 35)) #[.string ByteArray.empty, .slice none 0 0] 35 (w.heap.size + 1) (by simp)) (by simp)
    have kc1 := hbc.cell
    have kc2 := hbc.free
    have kc3 := hbc.lt
    have kr1 := hbr.cell
    have kr2 := hbr.free
    have kr3 := hbr.lt
    have HF1 := Lib.hid (HF0.out.trans hF1)
    have hz1 := HF1.out.size
    clear hF1
    go_wp2_with fail
    refine bodyPost_ret (v := .tuple #[.agg #[.string nm, .slice pa l.length pc], .int .i64 51]) (by simp [results, Try.results11, go_sem, *]) rfl ?_
    exact BookPost.same HR.out (by repeat' (first | (with_reducible exact HF1.out) | (with_reducible refine Fr.drew ?_) | (with_reducible refine Fr.drN ?_ _) | (with_reducible refine Fr.alloc ?_ _) | (with_reducible refine Fr.set ?_ ?_ _) | (left; simp; done) | (right; simp; done) | (right; simp; omega)))
  by_cases c2 : 72057594037927936 < u + n
  · rw [if_pos (c := 72057594037927936 < n ∨ 72057594037927936 < u + n) (by omega)] at hr
    have HR := Lib.hid hr
    clear hr
    go_enter Try.func11, Try.ntmps11
    go_wp2_with fail
    go_at_call 32
    refine (HFi.out _ (H.out.fr0 HF0.out)).mono ?_
    rintro e w1 ⟨rfl, hF1⟩
    have hbc := hF1.blk ((Blk.new w #[.string nm, .slice pa l.length pc] 35).alloc (.cells #[.string ByteArray.empty, .slice none 0 0] 35)) (by simp)
    have hbr := hF1.blk (Blk.mk0 (w.alloc (.cells #[.string nm, .slice pa l.length pc] 35)) #[.string ByteArray.empty, .slice none 0 0] 35 (w.heap.size + 1) (by simp)) (by simp)
    have kc1 := hbc.cell
    have kc2 := hbc.free
    have kc3 := hbc.lt
    have kr1 := hbr.cell
    have kr2 := hbr.free
    have kr3 := hbr.lt
    have HF1 := Lib.hid (HF0.out.trans hF1)
    have hz1 := HF1.out.size
    clear hF1
    go_wp2_with fail
    refine bodyPost_ret (v := .tuple #[.agg #[.string nm, .slice pa l.length pc], .int .i64 51]) (by simp [results, Try.results11, go_sem, *]) rfl ?_
    exact BookPost.same HR.out (by repeat' (first | (with_reducible exact HF1.out) | (with_reducible refine Fr.drew ?_) | (with_reducible refine Fr.drN ?_ _) | (with_reducible refine Fr.alloc ?_ _) | (with_reducible refine Fr.set ?_ ?_ _) | (left; simp; done) | (right; simp; done) | (right; simp; omega)))
  by_cases c3 : 0 < n
  · cases is_ with
    | false =>
      by_cases c4 : 64 ≤ l.length
      · have c4i : 64 ≤ (l.length : Int) := by omega
        rw [if_neg (c := 72057594037927936 < n ∨ 72057594037927936 < u + n) (by omega), if_pos (c := 0 < n ∧ false = false ∧ 64 ≤ l.length) ⟨by omega, rfl, by omega⟩] at hr
        have HR := Lib.hid hr
        clear hr
        go_enter Try.func11, Try.ntmps11
        go_wp2_with fail
        go_at_call 32
        refine (HFi.out _ (H.out.fr0 HF0.out)).mono ?_
        rintro e w1 ⟨rfl, hF1⟩
        have hbc := hF1.blk ((Blk.new w #[.string nm, .slice pa l.length pc] 35).alloc (.cells #[.string ByteArray.empty, .slice none 0 0] 35)) (by simp)
        have hbr := hF1.blk (Blk.mk0 (w.alloc (.cells #[.string nm, .slice pa l.length pc] 35)) #[.string ByteArray.empty, .slice none 0 0] 35 (w.heap.size + 1) (by simp)) (by simp)
        have kc1 := hbc.cell
        have kc2 := hbc.free
        have kc3 := hbc.lt
        have kr1 := hbr.cell
        have kr2 := hbr.free
        have kr3 := hbr.lt
        have HF1 := Lib.hid (HF0.out.trans hF1)
        have hz1 := HF1.out.size
        clear hF1
        go_wp2_with fail
        refine bodyPost_ret (v := .tuple #[.agg #[.string nm, .slice pa l.length pc], .int .i64 3]) (by simp [results, Try.results11, go_sem, *]) rfl ?_
        exact BookPost.same HR.out (by repeat' (first | (with_reducible exact HF1.out) | (with_reducible refine Fr.drew ?_) | (with_reducible refine Fr.drN ?_ _) | (with_reducible refine Fr.alloc ?_ _) | (with_reducible refine Fr.set ?_ ?_ _) | (left; simp; done) | (right; simp; done) | (right; simp; omega)))
      · have c4i : ¬ 64 ≤ (l.length : Int) := by omega
        have c5 : 0 < u + n := by omega
        rw [if_neg (c := 72057594037927936 < n ∨ 72057594037927936 < u + n) (by omega), if_neg (c := 0 < n ∧ false = false ∧ 64 ≤ l.length) (fun h => by have := h.2.2; omega), if_pos (c := 0 < u + n ∨ 0 < d) (by omega)] at hr
        have HR := Lib.hid hr
        clear hr
        go_enter Try.func11, Try.ntmps11
        go_wp2_with fail
        go_at_call 32
        refine (HFi.out _ (H.out.fr0 HF0.out)).mono ?_
        rintro e w1 ⟨rfl, hF1⟩
        have hbc := hF1.blk ((Blk.new w #[.string nm, .slice pa l.length pc] 35).alloc (.cells #[.string ByteArray.empty, .slice none 0 0] 35)) (by simp)
        have hbr := hF1.blk (Blk.mk0 (w.alloc (.cells #[.string nm, .slice pa l.length pc] 35)) #[.string ByteArray.empty, .slice none 0 0] 35 (w.heap.size + 1) (by simp)) (by simp)
        have kc1 := hbc.cell
        have kc2 := hbc.free
        have kc3 := hbc.lt
        have kr1 := hbr.cell
        have kr2 := hbr.free
        have kr3 := hbr.lt
        have HF1 := Lib.hid (HF0.out.trans hF1)
        have hz1 := HF1.out.size
        clear hF1
        go_wp2_with fail
        go_at_call 33
        refine (put_any _ l nm (u + n) (d) _ (by refine (H.out.fr0 HF1.out).fr0 ?_; repeat' (first | (with_reducible exact Fr.refl _ _) | (with_reducible refine Fr.drew ?_) | (with_reducible refine Fr.drN ?_ _) | (with_reducible refine Fr.alloc ?_ _) | (with_reducible refine Fr.set ?_ ?_ _) | (left; simp; done) | (right; simp; done) | (right; simp; omega))) (by omega)).mono ?_
        rintro e w5 ⟨v5, rfl, hS5, hF5⟩
        rw [CC.putR_put _ _ HSr.out] at hS5
        have hF5' : Fr [] w1 w5 := by
          refine Fr.trans ?_ hF5
          repeat' (first | (with_reducible exact Fr.refl _ _) | (with_reducible refine Fr.drew ?_) | (with_reducible refine Fr.drN ?_ _) | (with_reducible refine Fr.alloc ?_ _) | (with_reducible refine Fr.set ?_ ?_ _) | (left; simp; done) | (right; simp; done) | (right; simp; omega))
        have jc1 := (hF5'.blk hbc (by simp)).cell
        have jc2 := (hF5'.blk hbc (by simp)).free
        have jc3 := (hF5'.blk hbc (by simp)).lt
        have jr1 := (hF5'.blk hbr (by simp)).cell
        have jr2 := (hF5'.blk hbr (by simp)).free
        have jr3 := (hF5'.blk hbr (by simp)).lt
        have HS5 := Lib.hid hS5
        have HF5 := Lib.hid (HF1.out.trans hF5')
        obtain ⟨qa, qc, e5⟩ := hS5.at_
        subst e5
        clear hS5 hF5 hF5'
        go_wp2_with fail
        refine bodyPost_ret (v := .tuple #[.agg #[.string nm, .slice qa (putL l (nm, u + n, d)).length qc], .int .i64 0]) (by simp [results, Try.results11, go_sem, *]) rfl ?_
        exact BookPost.new HR.out ((HS5.out.frb (S := [w.heap.size, w.heap.size + 1]) (by repeat' (first | (with_reducible exact Fr.refl _ _) | (with_reducible refine Fr.drew ?_) | (with_reducible refine Fr.drN ?_ _) | (with_reducible refine Fr.alloc ?_ _) | (with_reducible refine Fr.set ?_ ?_ _) | (left; simp; done) | (right; simp; done) | (right; simp; omega))) (by simp; omega)).base_le (by simp; omega)) (by repeat' (first | (with_reducible exact HF5.out) | (with_reducible refine Fr.drew ?_) | (with_reducible refine Fr.drN ?_ _) | (with_reducible refine Fr.alloc ?_ _) | (with_reducible refine Fr.set ?_ ?_ _) | (left; simp; done) | (right; simp; done) | (right; simp; omega)))
    | true =>
      have c5 : 0 < u + n := by omega
      rw [if_neg (c := 72057594037927936 < n ∨ 72057594037927936 < u + n) (by omega), if_neg (c := 0 < n ∧ true = false ∧ 64 ≤ l.length) (fun h => by cases h.2.1), if_pos (c := 0 < u + n ∨ 0 < d) (by omega)] at hr
      have HR := Lib.hid hr
      clear hr
      go_enter Try.func11, Try.ntmps11
      go_wp2_with fail
      go_at_call 32
      refine (HFi.out _ (H.out.fr0 HF0.out)).mono ?_
      rintro e w1 ⟨rfl, hF1⟩
      have hbc := hF1.blk ((Blk.new w #[.string nm, .slice pa l.length pc] 35).alloc (.cells #[.string ByteArray.empty, .slice none 0 0] 35)) (by simp)
      have hbr := hF1.blk (Blk.mk0 (w.alloc (.cells #[.string nm, .slice pa l.length pc] 35)) #[.string ByteArray.empty, .slice none 0 0] 35 (w.heap.size + 1) (by simp)) (by simp)
      have kc1 := hbc.cell
      have kc2 := hbc.free
      have kc3 := hbc.lt
      have kr1 := hbr.cell
      have kr2 := hbr.free
      have kr3 := hbr.lt
      have HF1 := Lib.hid (HF0.out.trans hF1)
      have hz1 := HF1.out.size
      clear hF1
      go_wp2_with fail
      go_at_call 33
      refine (put_any _ l nm (u + n) (d) _ (by refine (H.out.fr0 HF1.out).fr0 ?_; repeat' (first | (with_reducible exact Fr.refl _ _) | (with_reducible refine Fr.drew ?_) | (with_reducible refine Fr.drN ?_ _) | (with_reducible refine Fr.alloc ?_ _) | (with_reducible refine Fr.set ?_ ?_ _) | (left; simp; done) | (right; simp; done) | (right; simp; omega))) (by omega)).mono ?_
      rintro e w5 ⟨v5, rfl, hS5, hF5⟩
      rw [CC.putR_put _ _ HSr.out] at hS5
      have hF5' : Fr [] w1 w5 := by
        refine Fr.trans ?_ hF5
        repeat' (first | (with_reducible exact Fr.refl _ _) | (with_reducible refine Fr.drew ?_) | (with_reducible refine Fr.drN ?_ _) | (with_reducible refine Fr.alloc ?_ _) | (with_reducible refine Fr.set ?_ ?_ _) | (left; simp; done) | (right; simp; done) | (right; simp; omega))
      have jc1 := (hF5'.blk hbc (by simp)).cell
      have jc2 := (hF5'.blk hbc (by simp)).free
      have jc3 := (hF5'.blk hbc (by simp)).lt
      have jr1 := (hF5'.blk hbr (by simp)).cell
      have jr2 := (hF5'.blk hbr (by simp)).free
      have jr3 := (hF5'.blk hbr (by simp)).lt
      have HS5 := Lib.hid hS5
      have HF5 := Lib.hid (HF1.out.trans hF5')
      obtain ⟨qa, qc, e5⟩ := hS5.at_
      subst e5
      clear hS5 hF5 hF5'
      go_wp2_with fail
      refine bodyPost_ret (v := .tuple #[.agg #[.string nm, .slice qa (putL l (nm, u + n, d)).length qc], .int .i64 0]) (by simp [results, Try.results11, go_sem, *]) rfl ?_
      exact BookPost.new HR.out ((HS5.out.frb (S := [w.heap.size, w.heap.size + 1]) (by repeat' (first | (with_reducible exact Fr.refl _ _) | (with_reducible refine Fr.drew ?_) | (with_reducible refine Fr.drN ?_ _) | (with_reducible refine Fr.alloc ?_ _) | (with_reducible refine Fr.set ?_ ?_ _) | (left; simp; done) | (right; simp; done) | (right; simp; omega))) (by simp; omega)).base_le (by simp; omega)) (by repeat' (first | (with_reducible exact HF5.out) | (with_reducible refine Fr.drew ?_) | (with_reducible refine Fr.drN ?_ _) | (with_reducible refine Fr.alloc ?_ _) | (with_reducible refine Fr.set ?_ ?_ _) | (left; simp; done) | (right; simp; done) | (right; simp; omega)))
  · by_cases c5 : 0 < u + n
    · rw [if_neg (c := 72057594037927936 < n ∨ 72057594037927936 < u + n) (by omega), if_neg (c := 0 < n ∧ is_ = false ∧ 64 ≤ l.length) (fun h => by have := h.1; omega), if_pos (c := 0 < u + n ∨ 0 < d) (by omega)] at hr
      have HR := Lib.hid hr
      clear hr
      go_enter Try.func11, Try.ntmps11
      go_wp2_with fail
      go_at_call 32
      refine (HFi.out _ (H.out.fr0 HF0.out)).mono ?_
      rintro e w1 ⟨rfl, hF1⟩
      have hbc := hF1.blk ((Blk.new w #[.string nm, .slice pa l.length pc] 35).alloc (.cells #[.string ByteArray.empty, .slice none 0 0] 35)) (by simp)
      have hbr := hF1.blk (Blk.mk0 (w.alloc (.cells #[.string nm, .slice pa l.length pc] 35)) #[.string ByteArray.empty, .slice none 0 0] 35 (w.heap.size + 1) (by simp)) (by simp)
      have kc1 := hbc.cell
      have kc2 := hbc.free
      have kc3 := hbc.lt
      have kr1 := hbr.cell
      have kr2 := hbr.free
      have kr3 := hbr.lt
      have HF1 := Lib.hid (HF0.out.trans hF1)
      have hz1 := HF1.out.size
      clear hF1
      go_wp2_with fail
      go_at_call 33
      refine (put_any _ l nm (u + n) (d) _ (by refine (H.out.fr0 HF1.out).fr0 ?_; repeat' (first | (with_reducible exact Fr.refl _ _) | (with_reducible refine Fr.drew ?_) | (with_reducible refine Fr.drN ?_ _) | (with_reducible refine Fr.alloc ?_ _) | (with_reducible refine Fr.set ?_ ?_ _) | (left; simp; done) | (right; simp; done) | (right; simp; omega))) (by omega)).mono ?_
      rintro e w5 ⟨v5, rfl, hS5, hF5⟩
      rw [CC.putR_put _ _ HSr.out] at hS5
      have hF5' : Fr [] w1 w5 := by
        refine Fr.trans ?_ hF5
        repeat' (first | (with_reducible exact Fr.refl _ _) | (with_reducible refine Fr.drew ?_) | (with_reducible refine Fr.drN ?_ _) | (with_reducible refine Fr.alloc ?_ _) | (with_reducible refine Fr.set ?_ ?_ _) | (left; simp; done) | (right; simp; done) | (right; simp; omega))
      have jc1 := (hF5'.blk hbc (by simp)).cell
      have jc2 := (hF5'.blk hbc (by simp)).free
      have jc3 := (hF5'.blk hbc (by simp)).lt
      have jr1 := (hF5'.blk hbr (by simp)).cell
      have jr2 := (hF5'.blk hbr (by simp)).free
      have jr3 := (hF5'.blk hbr (by simp)).lt
      have HS5 := Lib.hid hS5
      have HF5 := Lib.hid (HF1.out.trans hF5')
      obtain ⟨qa, qc, e5⟩ := hS5.at_
      subst e5
      clear hS5 hF5 hF5'
      go_wp2_with fail
      refine bodyPost_ret (v := .tuple #[.agg #[.string nm, .slice qa (putL l (nm, u + n, d)).length qc], .int .i64 0]) (by simp [results, Try.results11, go_sem, *]) rfl ?_
      exact BookPost.new HR.out ((HS5.out.frb (S := [w.heap.size, w.heap.size + 1]) (by repeat' (first | (with_reducible exact Fr.refl _ _) | (with_reducible refine Fr.drew ?_) | (with_reducible refine Fr.drN ?_ _) | (with_reducible refine Fr.alloc ?_ _) | (with_reducible refine Fr.set ?_ ?_ _) | (left; simp; done) | (right; simp; done) | (right; simp; omega))) (by simp; omega)).base_le (by simp; omega)) (by repeat' (first | (with_reducible exact HF5.out) | (with_reducible refine Fr.drew ?_) | (with_reducible refine Fr.drN ?_ _) | (with_reducible refine Fr.alloc ?_ _) | (with_reducible refine Fr.set ?_ ?_ _) | (left; simp; done) | (right; simp; done) | (right; simp; omega)))
    · by_cases c6 : 0 < d
      · rw [if_neg (c := 72057594037927936 < n ∨ 72057594037927936 < u + n) (by omega), if_neg (c := 0 < n ∧ is_ = false ∧ 64 ≤ l.length) (fun h => by have := h.1; omega), if_pos (c := 0 < u + n ∨ 0 < d) (by omega)] at hr
        have HR := Lib.hid hr
        clear hr
        go_enter Try.func11, Try.ntmps11
        go_wp2_with fail
        go_at_call 32
        refine (HFi.out _ (H.out.fr0 HF0.out)).mono ?_
        rintro e w1 ⟨rfl, hF1⟩
        have hbc := hF1.blk ((Blk.new w #[.string nm, .slice pa l.length pc] 35).alloc (.cells #[.string ByteArray.empty, .slice none 0 0] 35)) (by simp)
        have hbr := hF1.blk (Blk.mk0 (w.alloc (.cells #[.string nm, .slice pa l.length pc] 35)) #[.string ByteArray.empty, .slice none 0 0] 35 (w.heap.size + 1) (by simp)) (by simp)
        have kc1 := hbc.cell
        have kc2 := hbc.free
        have kc3 := hbc.lt
        have kr1 := hbr.cell
        have kr2 := hbr.free
        have kr3 := hbr.lt
        have HF1 := Lib.hid (HF0.out.trans hF1)
        have hz1 := HF1.out.size
        clear hF1
        go_wp2_with fail
        go_at_call 33
        refine (put_any _ l nm (u + n) (d) _ (by refine (H.out.fr0 HF1.out).fr0 ?_; repeat' (first | (with_reducible exact Fr.refl _ _) | (with_reducible refine Fr.drew ?_) | (with_reducible refine Fr.drN ?_ _) | (with_reducible refine Fr.alloc ?_ _) | (with_reducible refine Fr.set ?_ ?_ _) | (left; simp; done) | (right; simp; done) | (right; simp; omega))) (by omega)).mono ?_
        rintro e w5 ⟨v5, rfl, hS5, hF5⟩
        rw [CC.putR_put _ _ HSr.out] at hS5
        have hF5' : Fr [] w1 w5 := by
          refine Fr.trans ?_ hF5
          repeat' (first | (with_reducible exact Fr.refl _ _) | (with_reducible refine Fr.drew ?_) | (with_reducible refine Fr.drN ?_ _) | (with_reducible refine Fr.alloc ?_ _) | (with_reducible refine Fr.set ?_ ?_ _) | (left; simp; done) | (right; simp; done) | (right; simp; omega))
        have jc1 := (hF5'.blk hbc (by simp)).cell
        have jc2 := (hF5'.blk hbc (by simp)).free
        have jc3 := (hF5'.blk hbc (by simp)).lt
        have jr1 := (hF5'.blk hbr (by simp)).cell
        have jr2 := (hF5'.blk hbr (by simp)).free
        have jr3 := (hF5'.blk hbr (by simp)).lt
        have HS5 := Lib.hid hS5
        have HF5 := Lib.hid (HF1.out.trans hF5')
        obtain ⟨qa, qc, e5⟩ := hS5.at_
        subst e5
        clear hS5 hF5 hF5'
        go_wp2_with fail
        refine bodyPost_ret (v := .tuple #[.agg #[.string nm, .slice qa (putL l (nm, u + n, d)).length qc], .int .i64 0]) (by simp [results, Try.results11, go_sem, *]) rfl ?_
        exact BookPost.new HR.out ((HS5.out.frb (S := [w.heap.size, w.heap.size + 1]) (by repeat' (first | (with_reducible exact Fr.refl _ _) | (with_reducible refine Fr.drew ?_) | (with_reducible refine Fr.drN ?_ _) | (with_reducible refine Fr.alloc ?_ _) | (with_reducible refine Fr.set ?_ ?_ _) | (left; simp; done) | (right; simp; done) | (right; simp; omega))) (by simp; omega)).base_le (by simp; omega)) (by repeat' (first | (with_reducible exact HF5.out) | (with_reducible refine Fr.drew ?_) | (with_reducible refine Fr.drN ?_ _) | (with_reducible refine Fr.alloc ?_ _) | (with_reducible refine Fr.set ?_ ?_ _) | (left; simp; done) | (right; simp; done) | (right; simp; omega)))
      · rw [if_neg (c := 72057594037927936 < n ∨ 72057594037927936 < u + n) (by omega), if_neg (c := 0 < n ∧ is_ = false ∧ 64 ≤ l.length) (fun h => by have := h.1; omega), if_neg (c := 0 < u + n ∨ 0 < d) (by omega)] at hr
        have HR := Lib.hid hr
        clear hr
        go_enter Try.func11, Try.ntmps11
        go_wp2_with fail
        go_at_call 32
        refine (HFi.out _ (H.out.fr0 HF0.out)).mono ?_
        rintro e w1 ⟨rfl, hF1⟩
        have hbc := hF1.blk ((Blk.new w #[.string nm, .slice pa l.length pc] 35).alloc (.cells #[.string ByteArray.empty, .slice none 0 0] 35)) (by simp)
        have hbr := hF1.blk (Blk.mk0 (w.alloc (.cells #[.string nm, .slice pa l.length pc] 35)) #[.string ByteArray.empty, .slice none 0 0] 35 (w.heap.size + 1) (by simp)) (by simp)
        have kc1 := hbc.cell
        have kc2 := hbc.free
        have kc3 := hbc.lt
        have kr1 := hbr.cell
        have kr2 := hbr.free
        have kr3 := hbr.lt
        have HF1 := Lib.hid (HF0.out.trans hF1)
        have hz1 := HF1.out.size
        clear hF1
        go_wp2_with fail
        refine bodyPost_ret (v := .tuple #[.agg #[.string nm, .slice pa l.length pc], .int .i64 0]) (by simp [results, Try.results11, go_sem, *]) rfl ?_
        exact BookPost.same HR.out (by repeat' (first | (with_reducible exact HF1.out) | (with_reducible refine Fr.drew ?_) | (with_reducible refine Fr.drN ?_ _) | (with_reducible refine Fr.alloc ?_ _) | (with_reducible refine Fr.set ?_ ?_ _) | (left; simp; done) | (right; simp; done) | (right; simp; omega)))
end Go.Proofs.Ytanbfejhhnhabaa

/- The reference's Add. -/
namespace Go.Proofs.Ytanbfejhhnhabaa
open Go.RowKit Go.Maps Go.Sort
set_option maxRecDepth 100000
set_option linter.unusedVariables false
set_option linter.unusedSimpArgs false
set_option maxHeartbeats 4000000
theorem radd1 (v : Value) (l : List Nd) (nm : ByteArray) (n : Int) (w : World) (h : RN w v l) (hs : Srt l) (hl : l.length ≤ 64) (hb : Bnd l) (hn0 : 0 ≤ n) (hn1 : n < 18446744073709551616) :
    Calls Try.prog 11 #[.agg #[.string nm, v], .int .u64 n, .bool true] w (BookPost nm v l (raddF l nm n true) w) := by
  obtain ⟨u, d, hud⟩ : ∃ u d, ofL l nm = (u, d) := ⟨_, _, rfl⟩
  obtain ⟨is_, his⟩ : ∃ i, i = (lk l nm).isSome := ⟨_, rfl⟩
  have hbd := ofL_bd hb nm
  rw [hud] at hbd
  obtain ⟨hu0, hu1, hd0, hd1⟩ := hbd
  simp only at hu0 hu1 hd0 hd1
  have hf : ∀ W, RN W v l → Calls Try.prog 32 #[v, .string nm] W fun e w' => e = .returned (.tuple #[ndV nm u d, .bool is_]) ∧ Fr [] W w' := fun W hW => by
    have := find_any v l nm W hW
    rwa [hud, ← his] at this
  obtain ⟨R, hr⟩ : ∃ R, R = raddF l nm n true := ⟨_, rfl⟩
  rw [← hr]
  unfold raddF at hr
  rw [hud, ← his] at hr
  simp only [Bool.false_eq_true, Bool.true_eq_false, if_false, if_true, false_and, true_and, or_false, false_or, eq_self, and_true] at hr
  have HFi := Lib.hid hf
  have H := Lib.hid h
  have HSr := Lib.hid hs
  obtain ⟨pa, pc, e⟩ := h.at_
  subst e
  clear h hf his hud hs hb
  have hF0 : Fr [] w ((w.alloc (.cells #[.string nm, .slice pa l.length pc] 35)).alloc (.cells #[.string ByteArray.empty, .slice none 0 0] 35)) := ((Fr.refl _ _).alloc _).alloc _
  have HF0 := Lib.hid hF0
  clear hF0
  by_cases c1 : 72057594037927936 < n
  · rw [if_pos (c := 72057594037927936 < n ∨ 72057594037927936 < d + n) (by omega)] at hr
    have HR := Lib.hid hr
    clear hr
    go_enter Try.func11, Try.ntmps11
    go_wp2_with fail
    go_at_call 32
    refine (HFi.out _ (H.out.fr0 HF0.out)).mono ?_
    rintro e w1 ⟨rfl, hF1⟩
    have hbc := hF1.blk ((Blk.new w #[.string nm, .slice pa l.length pc] 35).alloc (.cells #[.string ByteArray.empty, .slice none 0 0] 35)) (by simp)
    have hbr := hF1.blk (Blk.mk0 (w.alloc (.cells #[.string nm, .slice pa l.length pc] 35)) #[.string ByteArray.empty, .slice none 0 0] 35 (w.heap.size + 1) (by simp)) (by simp)
    have kc1 := hbc.cell
    have kc2 := hbc.free
    have kc3 := hbc.lt
    have kr1 := hbr.cell
    have kr2 := hbr.free
    have kr3 := hbr.lt
    have HF1 := Lib.hid (HF0.out.trans hF1)
    have hz1 := HF1.out.size
    clear hF1
    go_wp2_with fail
    refine bodyPost_ret (v := .tuple #[.agg #[.string nm, .slice pa l.length pc], .int .i64 51]) (by simp [results, Try.results11, go_sem, *]) rfl ?_
    exact BookPost.same HR.out (by repeat' (first | (with_reducible exact HF1.out) | (with_reducible refine Fr.drew ?_) | (with_reducible refine Fr.drN ?_ _) | (with_reducible refine Fr.alloc ?_ _) | (with_reducible refine Fr.set ?_ ?_ _) | (left; simp; done) | (right; simp; done) | (right; simp; omega)))
  by_cases c2 : 72057594037927936 < d + n
  · rw [if_pos (c := 72057594037927936 < n ∨ 72057594037927936 < d + n) (by omega)] at hr
    have HR := Lib.hid hr
    clear hr
    go_enter Try.func11, Try.ntmps11
    go_wp2_with fail
    go_at_call 32
    refine (HFi.out _ (H.out.fr0 HF0.out)).mono ?_
    rintro e w1 ⟨rfl, hF1⟩
    have hbc := hF1.blk ((Blk.new w #[.string nm, .slice pa l.length pc] 35).alloc (.cells #[.string ByteArray.empty, .slice none 0 0] 35)) (by simp)
    have hbr := hF1.blk (Blk.mk0 (w.alloc (.cells #[.string nm, .slice pa l.length pc] 35)) #[.string ByteArray.empty, .slice none 0 0] 35 (w.heap.size + 1) (by simp)) (by simp)
    have kc1 := hbc.cell
    have kc2 := hbc.free
    have kc3 := hbc.lt
    have kr1 := hbr.cell
    have kr2 := hbr.free
    have kr3 := hbr.lt
    have HF1 := Lib.hid (HF0.out.trans hF1)
    have hz1 := HF1.out.size
    clear hF1
    go_wp2_with fail
    refine bodyPost_ret (v := .tuple #[.agg #[.string nm, .slice pa l.length pc], .int .i64 51]) (by simp [results, Try.results11, go_sem, *]) rfl ?_
    exact BookPost.same HR.out (by repeat' (first | (with_reducible exact HF1.out) | (with_reducible refine Fr.drew ?_) | (with_reducible refine Fr.drN ?_ _) | (with_reducible refine Fr.alloc ?_ _) | (with_reducible refine Fr.set ?_ ?_ _) | (left; simp; done) | (right; simp; done) | (right; simp; omega)))
  by_cases c3 : 0 < n
  · cases is_ with
    | false =>
      by_cases c4 : 64 ≤ l.length
      · have c4i : 64 ≤ (l.length : Int) := by omega
        rw [if_neg (c := 72057594037927936 < n ∨ 72057594037927936 < d + n) (by omega), if_pos (c := 0 < n ∧ false = false ∧ 64 ≤ l.length) ⟨by omega, rfl, by omega⟩] at hr
        have HR := Lib.hid hr
        clear hr
        go_enter Try.func11, Try.ntmps11
        go_wp2_with fail
        go_at_call 32
        refine (HFi.out _ (H.out.fr0 HF0.out)).mono ?_
        rintro e w1 ⟨rfl, hF1⟩
        have hbc := hF1.blk ((Blk.new w #[.string nm, .slice pa l.length pc] 35).alloc (.cells #[.string ByteArray.empty, .slice none 0 0] 35)) (by simp)
        have hbr := hF1.blk (Blk.mk0 (w.alloc (.cells #[.string nm, .slice pa l.length pc] 35)) #[.string ByteArray.empty, .slice none 0 0] 35 (w.heap.size + 1) (by simp)) (by simp)
        have kc1 := hbc.cell
        have kc2 := hbc.free
        have kc3 := hbc.lt
        have kr1 := hbr.cell
        have kr2 := hbr.free
        have kr3 := hbr.lt
        have HF1 := Lib.hid (HF0.out.trans hF1)
        have hz1 := HF1.out.size
        clear hF1
        go_wp2_with fail
        refine bodyPost_ret (v := .tuple #[.agg #[.string nm, .slice pa l.length pc], .int .i64 3]) (by simp [results, Try.results11, go_sem, *]) rfl ?_
        exact BookPost.same HR.out (by repeat' (first | (with_reducible exact HF1.out) | (with_reducible refine Fr.drew ?_) | (with_reducible refine Fr.drN ?_ _) | (with_reducible refine Fr.alloc ?_ _) | (with_reducible refine Fr.set ?_ ?_ _) | (left; simp; done) | (right; simp; done) | (right; simp; omega)))
      · by_cases c5 : 0 < u
        · have c4i : ¬ 64 ≤ (l.length : Int) := by omega
          rw [if_neg (c := 72057594037927936 < n ∨ 72057594037927936 < d + n) (by omega), if_neg (c := 0 < n ∧ false = false ∧ 64 ≤ l.length) (fun h => by have := h.2.2; omega), if_pos (c := 0 < u ∨ 0 < d + n) (by omega)] at hr
          have HR := Lib.hid hr
          clear hr
          go_enter Try.func11, Try.ntmps11
          go_wp2_with fail
          go_at_call 32
          refine (HFi.out _ (H.out.fr0 HF0.out)).mono ?_
          rintro e w1 ⟨rfl, hF1⟩
          have hbc := hF1.blk ((Blk.new w #[.string nm, .slice pa l.length pc] 35).alloc (.cells #[.string ByteArray.empty, .slice none 0 0] 35)) (by simp)
          have hbr := hF1.blk (Blk.mk0 (w.alloc (.cells #[.string nm, .slice pa l.length pc] 35)) #[.string ByteArray.empty, .slice none 0 0] 35 (w.heap.size + 1) (by simp)) (by simp)
          have kc1 := hbc.cell
          have kc2 := hbc.free
          have kc3 := hbc.lt
          have kr1 := hbr.cell
          have kr2 := hbr.free
          have kr3 := hbr.lt
          have HF1 := Lib.hid (HF0.out.trans hF1)
          have hz1 := HF1.out.size
          clear hF1
          go_wp2_with fail
          go_at_call 33
          refine (put_any _ l nm (u) (d + n) _ (by refine (H.out.fr0 HF1.out).fr0 ?_; repeat' (first | (with_reducible exact Fr.refl _ _) | (with_reducible refine Fr.drew ?_) | (with_reducible refine Fr.drN ?_ _) | (with_reducible refine Fr.alloc ?_ _) | (with_reducible refine Fr.set ?_ ?_ _) | (left; simp; done) | (right; simp; done) | (right; simp; omega))) (by omega)).mono ?_
          rintro e w5 ⟨v5, rfl, hS5, hF5⟩
          rw [CC.putR_put _ _ HSr.out] at hS5
          have hF5' : Fr [] w1 w5 := by
            refine Fr.trans ?_ hF5
            repeat' (first | (with_reducible exact Fr.refl _ _) | (with_reducible refine Fr.drew ?_) | (with_reducible refine Fr.drN ?_ _) | (with_reducible refine Fr.alloc ?_ _) | (with_reducible refine Fr.set ?_ ?_ _) | (left; simp; done) | (right; simp; done) | (right; simp; omega))
          have jc1 := (hF5'.blk hbc (by simp)).cell
          have jc2 := (hF5'.blk hbc (by simp)).free
          have jc3 := (hF5'.blk hbc (by simp)).lt
          have jr1 := (hF5'.blk hbr (by simp)).cell
          have jr2 := (hF5'.blk hbr (by simp)).free
          have jr3 := (hF5'.blk hbr (by simp)).lt
          have HS5 := Lib.hid hS5
          have HF5 := Lib.hid (HF1.out.trans hF5')
          obtain ⟨qa, qc, e5⟩ := hS5.at_
          subst e5
          clear hS5 hF5 hF5'
          go_wp2_with fail
          refine bodyPost_ret (v := .tuple #[.agg #[.string nm, .slice qa (putL l (nm, u, d + n)).length qc], .int .i64 0]) (by simp [results, Try.results11, go_sem, *]) rfl ?_
          exact BookPost.new HR.out ((HS5.out.frb (S := [w.heap.size, w.heap.size + 1]) (by repeat' (first | (with_reducible exact Fr.refl _ _) | (with_reducible refine Fr.drew ?_) | (with_reducible refine Fr.drN ?_ _) | (with_reducible refine Fr.alloc ?_ _) | (with_reducible refine Fr.set ?_ ?_ _) | (left; simp; done) | (right; simp; done) | (right; simp; omega))) (by simp; omega)).base_le (by simp; omega)) (by repeat' (first | (with_reducible exact HF5.out) | (with_reducible refine Fr.drew ?_) | (with_reducible refine Fr.drN ?_ _) | (with_reducible refine Fr.alloc ?_ _) | (with_reducible refine Fr.set ?_ ?_ _) | (left; simp; done) | (right; simp; done) | (right; simp; omega)))
        · have c4i : ¬ 64 ≤ (l.length : Int) := by omega
          have c6 : 0 < d + n := by omega
          rw [if_neg (c := 72057594037927936 < n ∨ 72057594037927936 < d + n) (by omega), if_neg (c := 0 < n ∧ false = false ∧ 64 ≤ l.length) (fun h => by have := h.2.2; omega), if_pos (c := 0 < u ∨ 0 < d + n) (by omega)] at hr
          have HR := Lib.hid hr
          clear hr
          go_enter Try.func11, Try.ntmps11
          go_wp2_with fail
          go_at_call 32
          refine (HFi.out _ (H.out.fr0 HF0.out)).mono ?_
          rintro e w1 ⟨rfl, hF1⟩
          have hbc := hF1.blk ((Blk.new w #[.string nm, .slice pa l.length pc] 35).alloc (.cells #[.string ByteArray.empty, .slice none 0 0] 35)) (by simp)
          have hbr := hF1.blk (Blk.mk0 (w.alloc (.cells #[.string nm, .slice pa l.length pc] 35)) #[.string ByteArray.empty, .slice none 0 0] 35 (w.heap.size + 1) (by simp)) (by simp)
          have kc1 := hbc.cell
          have kc2 := hbc.free
          have kc3 := hbc.lt
          have kr1 := hbr.cell
          have kr2 := hbr.free
          have kr3 := hbr.lt
          have HF1 := Lib.hid (HF0.out.trans hF1)
          have hz1 := HF1.out.size
          clear hF1
          go_wp2_with fail
          go_at_call 33
          refine (put_any _ l nm (u) (d + n) _ (by refine (H.out.fr0 HF1.out).fr0 ?_; repeat' (first | (with_reducible exact Fr.refl _ _) | (with_reducible refine Fr.drew ?_) | (with_reducible refine Fr.drN ?_ _) | (with_reducible refine Fr.alloc ?_ _) | (with_reducible refine Fr.set ?_ ?_ _) | (left; simp; done) | (right; simp; done) | (right; simp; omega))) (by omega)).mono ?_
          rintro e w5 ⟨v5, rfl, hS5, hF5⟩
          rw [CC.putR_put _ _ HSr.out] at hS5
          have hF5' : Fr [] w1 w5 := by
            refine Fr.trans ?_ hF5
            repeat' (first | (with_reducible exact Fr.refl _ _) | (with_reducible refine Fr.drew ?_) | (with_reducible refine Fr.drN ?_ _) | (with_reducible refine Fr.alloc ?_ _) | (with_reducible refine Fr.set ?_ ?_ _) | (left; simp; done) | (right; simp; done) | (right; simp; omega))
          have jc1 := (hF5'.blk hbc (by simp)).cell
          have jc2 := (hF5'.blk hbc (by simp)).free
          have jc3 := (hF5'.blk hbc (by simp)).lt
          have jr1 := (hF5'.blk hbr (by simp)).cell
          have jr2 := (hF5'.blk hbr (by simp)).free
          have jr3 := (hF5'.blk hbr (by simp)).lt
          have HS5 := Lib.hid hS5
          have HF5 := Lib.hid (HF1.out.trans hF5')
          obtain ⟨qa, qc, e5⟩ := hS5.at_
          subst e5
          clear hS5 hF5 hF5'
          go_wp2_with fail
          refine bodyPost_ret (v := .tuple #[.agg #[.string nm, .slice qa (putL l (nm, u, d + n)).length qc], .int .i64 0]) (by simp [results, Try.results11, go_sem, *]) rfl ?_
          exact BookPost.new HR.out ((HS5.out.frb (S := [w.heap.size, w.heap.size + 1]) (by repeat' (first | (with_reducible exact Fr.refl _ _) | (with_reducible refine Fr.drew ?_) | (with_reducible refine Fr.drN ?_ _) | (with_reducible refine Fr.alloc ?_ _) | (with_reducible refine Fr.set ?_ ?_ _) | (left; simp; done) | (right; simp; done) | (right; simp; omega))) (by simp; omega)).base_le (by simp; omega)) (by repeat' (first | (with_reducible exact HF5.out) | (with_reducible refine Fr.drew ?_) | (with_reducible refine Fr.drN ?_ _) | (with_reducible refine Fr.alloc ?_ _) | (with_reducible refine Fr.set ?_ ?_ _) | (left; simp; done) | (right; simp; done) | (right; simp; omega)))
    | true =>
      by_cases c5 : 0 < u
      · rw [if_neg (c := 72057594037927936 < n ∨ 72057594037927936 < d + n) (by omega), if_neg (c := 0 < n ∧ true = false ∧ 64 ≤ l.length) (fun h => by cases h.2.1), if_pos (c := 0 < u ∨ 0 < d + n) (by omega)] at hr
        have HR := Lib.hid hr
        clear hr
        go_enter Try.func11, Try.ntmps11
        go_wp2_with fail
        go_at_call 32
        refine (HFi.out _ (H.out.fr0 HF0.out)).mono ?_
        rintro e w1 ⟨rfl, hF1⟩
        have hbc := hF1.blk ((Blk.new w #[.string nm, .slice pa l.length pc] 35).alloc (.cells #[.string ByteArray.empty, .slice none 0 0] 35)) (by simp)
        have hbr := hF1.blk (Blk.mk0 (w.alloc (.cells #[.string nm, .slice pa l.length pc] 35)) #[.string ByteArray.empty, .slice none 0 0] 35 (w.heap.size + 1) (by simp)) (by simp)
        have kc1 := hbc.cell
        have kc2 := hbc.free
        have kc3 := hbc.lt
        have kr1 := hbr.cell
        have kr2 := hbr.free
        have kr3 := hbr.lt
        have HF1 := Lib.hid (HF0.out.trans hF1)
        have hz1 := HF1.out.size
        clear hF1
        go_wp2_with fail
        go_at_call 33
        refine (put_any _ l nm (u) (d + n) _ (by refine (H.out.fr0 HF1.out).fr0 ?_; repeat' (first | (with_reducible exact Fr.refl _ _) | (with_reducible refine Fr.drew ?_) | (with_reducible refine Fr.drN ?_ _) | (with_reducible refine Fr.alloc ?_ _) | (with_reducible refine Fr.set ?_ ?_ _) | (left; simp; done) | (right; simp; done) | (right; simp; omega))) (by omega)).mono ?_
        rintro e w5 ⟨v5, rfl, hS5, hF5⟩
        rw [CC.putR_put _ _ HSr.out] at hS5
        have hF5' : Fr [] w1 w5 := by
          refine Fr.trans ?_ hF5
          repeat' (first | (with_reducible exact Fr.refl _ _) | (with_reducible refine Fr.drew ?_) | (with_reducible refine Fr.drN ?_ _) | (with_reducible refine Fr.alloc ?_ _) | (with_reducible refine Fr.set ?_ ?_ _) | (left; simp; done) | (right; simp; done) | (right; simp; omega))
        have jc1 := (hF5'.blk hbc (by simp)).cell
        have jc2 := (hF5'.blk hbc (by simp)).free
        have jc3 := (hF5'.blk hbc (by simp)).lt
        have jr1 := (hF5'.blk hbr (by simp)).cell
        have jr2 := (hF5'.blk hbr (by simp)).free
        have jr3 := (hF5'.blk hbr (by simp)).lt
        have HS5 := Lib.hid hS5
        have HF5 := Lib.hid (HF1.out.trans hF5')
        obtain ⟨qa, qc, e5⟩ := hS5.at_
        subst e5
        clear hS5 hF5 hF5'
        go_wp2_with fail
        refine bodyPost_ret (v := .tuple #[.agg #[.string nm, .slice qa (putL l (nm, u, d + n)).length qc], .int .i64 0]) (by simp [results, Try.results11, go_sem, *]) rfl ?_
        exact BookPost.new HR.out ((HS5.out.frb (S := [w.heap.size, w.heap.size + 1]) (by repeat' (first | (with_reducible exact Fr.refl _ _) | (with_reducible refine Fr.drew ?_) | (with_reducible refine Fr.drN ?_ _) | (with_reducible refine Fr.alloc ?_ _) | (with_reducible refine Fr.set ?_ ?_ _) | (left; simp; done) | (right; simp; done) | (right; simp; omega))) (by simp; omega)).base_le (by simp; omega)) (by repeat' (first | (with_reducible exact HF5.out) | (with_reducible refine Fr.drew ?_) | (with_reducible refine Fr.drN ?_ _) | (with_reducible refine Fr.alloc ?_ _) | (with_reducible refine Fr.set ?_ ?_ _) | (left; simp; done) | (right; simp; done) | (right; simp; omega)))
      · have c6 : 0 < d + n := by omega
        rw [if_neg (c := 72057594037927936 < n ∨ 72057594037927936 < d + n) (by omega), if_neg (c := 0 < n ∧ true = false ∧ 64 ≤ l.length) (fun h => by cases h.2.1), if_pos (c := 0 < u ∨ 0 < d + n) (by omega)] at hr
        have HR := Lib.hid hr
        clear hr
        go_enter Try.func11, Try.ntmps11
        go_wp2_with fail
        go_at_call 32
        refine (HFi.out _ (H.out.fr0 HF0.out)).mono ?_
        rintro e w1 ⟨rfl, hF1⟩
        have hbc := hF1.blk ((Blk.new w #[.string nm, .slice pa l.length pc] 35).alloc (.cells #[.string ByteArray.empty, .slice none 0 0] 35)) (by simp)
        have hbr := hF1.blk (Blk.mk0 (w.alloc (.cells #[.string nm, .slice pa l.length pc] 35)) #[.string ByteArray.empty, .slice none 0 0] 35 (w.heap.size + 1) (by simp)) (by simp)
        have kc1 := hbc.cell
        have kc2 := hbc.free
        have kc3 := hbc.lt
        have kr1 := hbr.cell
        have kr2 := hbr.free
        have kr3 := hbr.lt
        have HF1 := Lib.hid (HF0.out.trans hF1)
        have hz1 := HF1.out.size
        clear hF1
        go_wp2_with fail
        go_at_call 33
        refine (put_any _ l nm (u) (d + n) _ (by refine (H.out.fr0 HF1.out).fr0 ?_; repeat' (first | (with_reducible exact Fr.refl _ _) | (with_reducible refine Fr.drew ?_) | (with_reducible refine Fr.drN ?_ _) | (with_reducible refine Fr.alloc ?_ _) | (with_reducible refine Fr.set ?_ ?_ _) | (left; simp; done) | (right; simp; done) | (right; simp; omega))) (by omega)).mono ?_
        rintro e w5 ⟨v5, rfl, hS5, hF5⟩
        rw [CC.putR_put _ _ HSr.out] at hS5
        have hF5' : Fr [] w1 w5 := by
          refine Fr.trans ?_ hF5
          repeat' (first | (with_reducible exact Fr.refl _ _) | (with_reducible refine Fr.drew ?_) | (with_reducible refine Fr.drN ?_ _) | (with_reducible refine Fr.alloc ?_ _) | (with_reducible refine Fr.set ?_ ?_ _) | (left; simp; done) | (right; simp; done) | (right; simp; omega))
        have jc1 := (hF5'.blk hbc (by simp)).cell
        have jc2 := (hF5'.blk hbc (by simp)).free
        have jc3 := (hF5'.blk hbc (by simp)).lt
        have jr1 := (hF5'.blk hbr (by simp)).cell
        have jr2 := (hF5'.blk hbr (by simp)).free
        have jr3 := (hF5'.blk hbr (by simp)).lt
        have HS5 := Lib.hid hS5
        have HF5 := Lib.hid (HF1.out.trans hF5')
        obtain ⟨qa, qc, e5⟩ := hS5.at_
        subst e5
        clear hS5 hF5 hF5'
        go_wp2_with fail
        refine bodyPost_ret (v := .tuple #[.agg #[.string nm, .slice qa (putL l (nm, u, d + n)).length qc], .int .i64 0]) (by simp [results, Try.results11, go_sem, *]) rfl ?_
        exact BookPost.new HR.out ((HS5.out.frb (S := [w.heap.size, w.heap.size + 1]) (by repeat' (first | (with_reducible exact Fr.refl _ _) | (with_reducible refine Fr.drew ?_) | (with_reducible refine Fr.drN ?_ _) | (with_reducible refine Fr.alloc ?_ _) | (with_reducible refine Fr.set ?_ ?_ _) | (left; simp; done) | (right; simp; done) | (right; simp; omega))) (by simp; omega)).base_le (by simp; omega)) (by repeat' (first | (with_reducible exact HF5.out) | (with_reducible refine Fr.drew ?_) | (with_reducible refine Fr.drN ?_ _) | (with_reducible refine Fr.alloc ?_ _) | (with_reducible refine Fr.set ?_ ?_ _) | (left; simp; done) | (right; simp; done) | (right; simp; omega)))
  · by_cases c5 : 0 < u
    · rw [if_neg (c := 72057594037927936 < n ∨ 72057594037927936 < d + n) (by omega), if_neg (c := 0 < n ∧ is_ = false ∧ 64 ≤ l.length) (fun h => by have := h.1; omega), if_pos (c := 0 < u ∨ 0 < d + n) (by omega)] at hr
      have HR := Lib.hid hr
      clear hr
      go_enter Try.func11, Try.ntmps11
      go_wp2_with fail
      go_at_call 32
      refine (HFi.out _ (H.out.fr0 HF0.out)).mono ?_
      rintro e w1 ⟨rfl, hF1⟩
      have hbc := hF1.blk ((Blk.new w #[.string nm, .slice pa l.length pc] 35).alloc (.cells #[.string ByteArray.empty, .slice none 0 0] 35)) (by simp)
      have hbr := hF1.blk (Blk.mk0 (w.alloc (.cells #[.string nm, .slice pa l.length pc] 35)) #[.string ByteArray.empty, .slice none 0 0] 35 (w.heap.size + 1) (by simp)) (by simp)
      have kc1 := hbc.cell
      have kc2 := hbc.free
      have kc3 := hbc.lt
      have kr1 := hbr.cell
      have kr2 := hbr.free
      have kr3 := hbr.lt
      have HF1 := Lib.hid (HF0.out.trans hF1)
      have hz1 := HF1.out.size
      clear hF1
      go_wp2_with fail
      go_at_call 33
      refine (put_any _ l nm (u) (d + n) _ (by refine (H.out.fr0 HF1.out).fr0 ?_; repeat' (first | (with_reducible exact Fr.refl _ _) | (with_reducible refine Fr.drew ?_) | (with_reducible refine Fr.drN ?_ _) | (with_reducible refine Fr.alloc ?_ _) | (with_reducible refine Fr.set ?_ ?_ _) | (left; simp; done) | (right; simp; done) | (right; simp; omega))) (by omega)).mono ?_
      rintro e w5 ⟨v5, rfl, hS5, hF5⟩
      rw [CC.putR_put _ _ HSr.out] at hS5
      have hF5' : Fr [] w1 w5 := by
        refine Fr.trans ?_ hF5
        repeat' (first | (with_reducible exact Fr.refl _ _) | (with_reducible refine Fr.drew ?_) | (with_reducible refine Fr.drN ?_ _) | (with_reducible refine Fr.alloc ?_ _) | (with_reducible refine Fr.set ?_ ?_ _) | (left; simp; done) | (right; simp; done) | (right; simp; omega))
      have jc1 := (hF5'.blk hbc (by simp)).cell
      have jc2 := (hF5'.blk hbc (by simp)).free
      have jc3 := (hF5'.blk hbc (by simp)).lt
      have jr1 := (hF5'.blk hbr (by simp)).cell
      have jr2 := (hF5'.blk hbr (by simp)).free
      have jr3 := (hF5'.blk hbr (by simp)).lt
      have HS5 := Lib.hid hS5
      have HF5 := Lib.hid (HF1.out.trans hF5')
      obtain ⟨qa, qc, e5⟩ := hS5.at_
      subst e5
      clear hS5 hF5 hF5'
      go_wp2_with fail
      refine bodyPost_ret (v := .tuple #[.agg #[.string nm, .slice qa (putL l (nm, u, d + n)).length qc], .int .i64 0]) (by simp [results, Try.results11, go_sem, *]) rfl ?_
      exact BookPost.new HR.out ((HS5.out.frb (S := [w.heap.size, w.heap.size + 1]) (by repeat' (first | (with_reducible exact Fr.refl _ _) | (with_reducible refine Fr.drew ?_) | (with_reducible refine Fr.drN ?_ _) | (with_reducible refine Fr.alloc ?_ _) | (with_reducible refine Fr.set ?_ ?_ _) | (left; simp; done) | (right; simp; done) | (right; simp; omega))) (by simp; omega)).base_le (by simp; omega)) (by repeat' (first | (with_reducible exact HF5.out) | (with_reducible refine Fr.drew ?_) | (with_reducible refine Fr.drN ?_ _) | (with_reducible refine Fr.alloc ?_ _) | (with_reducible refine Fr.set ?_ ?_ _) | (left; simp; done) | (right; simp; done) | (right; simp; omega)))
    · by_cases c6 : 0 < d + n
      · rw [if_neg (c := 72057594037927936 < n ∨ 72057594037927936 < d + n) (by omega), if_neg (c := 0 < n ∧ is_ = false ∧ 64 ≤ l.length) (fun h => by have := h.1; omega), if_pos (c := 0 < u ∨ 0 < d + n) (by omega)] at hr
        have HR := Lib.hid hr
        clear hr
        go_enter Try.func11, Try.ntmps11
        go_wp2_with fail
        go_at_call 32
        refine (HFi.out _ (H.out.fr0 HF0.out)).mono ?_
        rintro e w1 ⟨rfl, hF1⟩
        have hbc := hF1.blk ((Blk.new w #[.string nm, .slice pa l.length pc] 35).alloc (.cells #[.string ByteArray.empty, .slice none 0 0] 35)) (by simp)
        have hbr := hF1.blk (Blk.mk0 (w.alloc (.cells #[.string nm, .slice pa l.length pc] 35)) #[.string ByteArray.empty, .slice none 0 0] 35 (w.heap.size + 1) (by simp)) (by simp)
        have kc1 := hbc.cell
        have kc2 := hbc.free
        have kc3 := hbc.lt
        have kr1 := hbr.cell
        have kr2 := hbr.free
        have kr3 := hbr.lt
        have HF1 := Lib.hid (HF0.out.trans hF1)
        have hz1 := HF1.out.size
        clear hF1
        go_wp2_with fail
        go_at_call 33
        refine (put_any _ l nm (u) (d + n) _ (by refine (H.out.fr0 HF1.out).fr0 ?_; repeat' (first | (with_reducible exact Fr.refl _ _) | (with_reducible refine Fr.drew ?_) | (with_reducible refine Fr.drN ?_ _) | (with_reducible refine Fr.alloc ?_ _) | (with_reducible refine Fr.set ?_ ?_ _) | (left; simp; done) | (right; simp; done) | (right; simp; omega))) (by omega)).mono ?_
        rintro e w5 ⟨v5, rfl, hS5, hF5⟩
        rw [CC.putR_put _ _ HSr.out] at hS5
        have hF5' : Fr [] w1 w5 := by
          refine Fr.trans ?_ hF5
          repeat' (first | (with_reducible exact Fr.refl _ _) | (with_reducible refine Fr.drew ?_) | (with_reducible refine Fr.drN ?_ _) | (with_reducible refine Fr.alloc ?_ _) | (with_reducible refine Fr.set ?_ ?_ _) | (left; simp; done) | (right; simp; done) | (right; simp; omega))
        have jc1 := (hF5'.blk hbc (by simp)).cell
        have jc2 := (hF5'.blk hbc (by simp)).free
        have jc3 := (hF5'.blk hbc (by simp)).lt
        have jr1 := (hF5'.blk hbr (by simp)).cell
        have jr2 := (hF5'.blk hbr (by simp)).free
        have jr3 := (hF5'.blk hbr (by simp)).lt
        have HS5 := Lib.hid hS5
        have HF5 := Lib.hid (HF1.out.trans hF5')
        obtain ⟨qa, qc, e5⟩ := hS5.at_
        subst e5
        clear hS5 hF5 hF5'
        go_wp2_with fail
        refine bodyPost_ret (v := .tuple #[.agg #[.string nm, .slice qa (putL l (nm, u, d + n)).length qc], .int .i64 0]) (by simp [results, Try.results11, go_sem, *]) rfl ?_
        exact BookPost.new HR.out ((HS5.out.frb (S := [w.heap.size, w.heap.size + 1]) (by repeat' (first | (with_reducible exact Fr.refl _ _) | (with_reducible refine Fr.drew ?_) | (with_reducible refine Fr.drN ?_ _) | (with_reducible refine Fr.alloc ?_ _) | (with_reducible refine Fr.set ?_ ?_ _) | (left; simp; done) | (right; simp; done) | (right; simp; omega))) (by simp; omega)).base_le (by simp; omega)) (by repeat' (first | (with_reducible exact HF5.out) | (with_reducible refine Fr.drew ?_) | (with_reducible refine Fr.drN ?_ _) | (with_reducible refine Fr.alloc ?_ _) | (with_reducible refine Fr.set ?_ ?_ _) | (left; simp; done) | (right; simp; done) | (right; simp; omega)))
      · rw [if_neg (c := 72057594037927936 < n ∨ 72057594037927936 < d + n) (by omega), if_neg (c := 0 < n ∧ is_ = false ∧ 64 ≤ l.length) (fun h => by have := h.1; omega), if_neg (c := 0 < u ∨ 0 < d + n) (by omega)] at hr
        have HR := Lib.hid hr
        clear hr
        go_enter Try.func11, Try.ntmps11
        go_wp2_with fail
        go_at_call 32
        refine (HFi.out _ (H.out.fr0 HF0.out)).mono ?_
        rintro e w1 ⟨rfl, hF1⟩
        have hbc := hF1.blk ((Blk.new w #[.string nm, .slice pa l.length pc] 35).alloc (.cells #[.string ByteArray.empty, .slice none 0 0] 35)) (by simp)
        have hbr := hF1.blk (Blk.mk0 (w.alloc (.cells #[.string nm, .slice pa l.length pc] 35)) #[.string ByteArray.empty, .slice none 0 0] 35 (w.heap.size + 1) (by simp)) (by simp)
        have kc1 := hbc.cell
        have kc2 := hbc.free
        have kc3 := hbc.lt
        have kr1 := hbr.cell
        have kr2 := hbr.free
        have kr3 := hbr.lt
        have HF1 := Lib.hid (HF0.out.trans hF1)
        have hz1 := HF1.out.size
        clear hF1
        go_wp2_with fail
        refine bodyPost_ret (v := .tuple #[.agg #[.string nm, .slice pa l.length pc], .int .i64 0]) (by simp [results, Try.results11, go_sem, *]) rfl ?_
        exact BookPost.same HR.out (by repeat' (first | (with_reducible exact HF1.out) | (with_reducible refine Fr.drew ?_) | (with_reducible refine Fr.drN ?_ _) | (with_reducible refine Fr.alloc ?_ _) | (with_reducible refine Fr.set ?_ ?_ _) | (left; simp; done) | (right; simp; done) | (right; simp; omega)))
end Go.Proofs.Ytanbfejhhnhabaa

namespace Go.Proofs.Ytanbfejhhnhabaa
open Go.RowKit Go.Maps Go.Sort
set_option maxRecDepth 100000
set_option linter.unusedVariables false
set_option linter.unusedSimpArgs false
set_option maxHeartbeats 8000000
/-- What Take makes of a counter's state. -/
def takeF (l m : List Nd) : List Nd × Int := if (mergeF l m).2 = 0 then ((mergeF l m).1, 0) else (l, (mergeF l m).2)
def TakePost (bc b : Nat) (nm : ByteArray) (l m : List Nd) (w : World) (e : Ending) (w' : World) : Prop :=
  ∃ b', e = .returned (.int .i64 (takeF l m).2) ∧ CT w' bc b' 0 nm (takeF l m).1 ∧ (b' = b ∨ w.heap.size ≤ b') ∧ Fr [bc] w w'
theorem TakePost.mk {bc b b' : Nat} {nm : ByteArray} {l m l' : List Nd} {y : Int} {w w' : World} (h : takeF l m = (l', y)) (hC : CT w' bc b' 0 nm l') (hb : b' = b ∨ w.heap.size ≤ b') (hF : Fr [bc] w w') :
    TakePost bc b nm l m w (.returned (.int .i64 y)) w' := ⟨b', by rw [h], by rw [h]; exact hC, hb, hF⟩
theorem CT.arg {w : World} {bc b : Nat} {k : Int} {nm : ByteArray} {l : List Nd} (h : CT w bc b k nm l) : Arg l :=
  h.good.arg (fun a ha => ⟨(h.bnd a ha).1, (h.bnd a ha).2.2.1⟩) (by have := h.len; omega)
theorem mergeF_zero {l m r : List Nd} (hl : Arg l) (hm : Arg m) (h : mergeF l m = (r, 0)) : Rt r ∧ r.length ≤ 64 := by
  unfold mergeF at h
  split at h
  · rename_i hr
    have g1 := right_rt hl.pos hr.1
    have g2 := right_rt hm.pos hr.2
    split at h
    · rename_i h64
      simp only [Prod.mk.injEq, and_true] at h
      subst h
      exact ⟨merge_rt g1 g2, h64⟩
    · simp at h
  · simp at h
theorem take_any (bc b : Nat) (nm : ByteArray) (l m : List Nd) (v : Value) (w : World) (h : CT w bc b 0 nm l) (hm : RN w v m) (ha : Arg m) (hvb : ∀ g, v.ownBlock = some g → 0 < m.length → g ≠ bc) :
    Calls Try.prog 15 #[.pointer (some ⟨bc, 0, none⟩), v] w (TakePost bc b nm l m w) := by
  have hlt := h.blk.lt
  have hw := h.word
  have hl1 := h.lock 1
  have hc := hl1.blk.cell
  have hll := hl1.blk.lt
  have hn := h.len
  have HA := Lib.hid h.arg
  have HM := Lib.hid ha
  have hF1 : Fr [bc] w (w.setCell ⟨bc, 0, none⟩ (.int .i32 1)) := (Fr.refl _ _).set (.inl (by simp)) _
  have HR := Lib.hid (hm.frp hF1 (by simpa using hvb))
  have HL := Lib.hid hl1
  have HF1 := Lib.hid hF1
  clear hl1 hm ha hF1 hvb
  obtain ⟨r, y, hry⟩ : ∃ r y, mergeF l m = (r, y) := ⟨_, _, rfl⟩
  have HRY := Lib.hid hry
  clear hry
  go_enter_defers Try.func15, Try.ntmps15
  go_wp2_with ((go_at_call 34); (with_reducible refine (lock_free' bc 0 _ hw).mono ?_); rintro e w1 ⟨rfl, rfl⟩)
  try go_wp2_with fail
  go_at_call 36
  refine (state_any b _ l _ HL.out.nm_ HL.out.good (by omega) (by omega)).mono ?_
  rintro e w2 ⟨v1, rfl, hS, hF2⟩
  have HS := Lib.hid hS.rd
  have HF2 := Lib.hid hF2
  have hc2 := (HL.out.fr0 hF2).blk.cell
  have hl2 := (HL.out.fr0 hF2).blk.lt
  clear hS hF2 hc hll
  go_wp2_with fail
  go_at_call 20
  refine (merge_any _ _ l m _ HS.out (HR.out.fr0 HF2.out) HA.out HM.out).mono ?_
  rintro e w3 ⟨v3, rfl, hS3, hF3⟩
  rw [HRY.out] at hS3 ⊢
  have HS3 := Lib.hid hS3.rd
  have HC3 := Lib.hid ((HL.out.fr0 HF2.out).fr0 hF3)
  have HF3 := Lib.hid (HF1.out.trans ((HF2.out.trans hF3).mono (by simp)))
  clear hS3 hF3 hc2 hl2
  by_cases hy : y = 0
  · subst hy
    have e : takeF l m = (r, 0) := by unfold takeF; rw [HRY.out]; rfl
    obtain ⟨hrt, h64⟩ := mergeF_zero HA.out HM.out HRY.out
    have hgood := right_good (hrt.right h64)
    have hbnd := right_bnd (hrt.right h64) hrt.pos
    have E := Lib.hid e
    have HG := Lib.hid hgood
    have HB := Lib.hid hbnd
    clear e hrt hgood hbnd
    go_wp2_with fail
    go_at_call 38
    refine (nodes_any _ r _ HS3.out HG.out (by unfold maxLen; omega)).mono ?_
    rintro e w4 ⟨b2, rfl, hM4, hb2, hF4⟩
    have hC4 := HC3.out.fr0 hF4
    have hc4 := hC4.blk.cell
    have hl4 := hC4.blk.lt
    have hf4 := hC4.blk.free
    have HC4 := Lib.hid hC4
    have HM4 := Lib.hid hM4
    have HF4 := Lib.hid (HF3.out.trans (hF4.mono (by simp)))
    have hz3 := HF3.out.size
    clear hC4 hM4 hF4
    go_wp2_with fail
    have hne := HM4.out.neBlk HC4.out.blk
    have hset : Fr [bc] w4 (w4.setCell ⟨bc, 3, none⟩ (.map (some b2))) := (Fr.refl _ _).set (.inl (by simp)) _
    have hC5 : CT (w4.setCell ⟨bc, 3, none⟩ (.map (some b2))) bc b2 1 nm r := ⟨HC4.out.blk.set 3 _, HM4.out.fr hset (by simpa using hne.symm), HG.out, HB.out, h64, HC4.out.nsz⟩
    refine leaves_cons (f := 35) (args := #[.pointer (some ⟨bc, 0, none⟩)]) (by simp) (by simp [go_sem]) ?_
    refine (Go.MuLone.unlock_deferred muLib ⟨bc, 0, none⟩ .returning _ hC5.word.c hC5.word.f).mono ?_
    rintro e u' w'' ⟨rfl, rfl, rfl⟩
    refine ⟨_, results_tmp rfl _ _ _, ?_⟩
    exact TakePost.mk E.out (hC5.lock 0) (.inr (by omega)) ((HF4.out.trans hset).set (.inl (by simp)) _)
  · have e : takeF l m = (l, y) := by unfold takeF; rw [HRY.out]; simp [hy]
    have E := Lib.hid e
    have hy2 : (y == 0) = false := by simpa using hy
    clear e
    go_wp2_with fail
    refine leaves_cons (f := 35) (args := #[.pointer (some ⟨bc, 0, none⟩)]) (by simp) (by simp [go_sem]) ?_
    refine (Go.MuLone.unlock_deferred muLib ⟨bc, 0, none⟩ .returning _ HC3.out.word.c HC3.out.word.f).mono ?_
    rintro e u' w'' ⟨rfl, rfl, rfl⟩
    refine ⟨_, results_tmp rfl _ _ _, ?_⟩
    exact TakePost.mk E.out (HC3.out.lock 0) (.inl rfl) (HF3.out.set (.inl (by simp)) _)
end Go.Proofs.Ytanbfejhhnhabaa
