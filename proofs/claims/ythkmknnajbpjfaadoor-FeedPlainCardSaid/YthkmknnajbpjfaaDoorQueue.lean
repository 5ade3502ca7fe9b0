/- Operations that go one after another keep a queue: plain mathematics. -/
import Derived.Test.YthkmknnajbpjfaaDoorFeedM
set_option linter.unusedVariables false
set_option linter.unusedSimpArgs false
namespace Go.Proofs.YthkmknnajbpjfaaDoor
namespace M
/-- The operation p, stepped n times, ends as pf, the words being lf then. -/
def Ends (size : Nat) : Nat → List Int → Pn → List Int → Pn → Prop
  | 0, l, p, lf, pf => p.dn = true ∧ l = lf ∧ p = pf
  | n + 1, l, p, lf, pf => p.dn = false ∧ Words l ∧ Ends size n (step size l p).1 (step size l p).2.1 lf pf
/-- The words are those of a queue: the number of what was taken, and what is in it. -/
structure Q (size : Nat) (head : Int) (q : List Int) (l : List Int) : Prop where
  len : l.length = 2 + 2 * size
  words : Words l
  h0 : 0 ≤ head
  hq : q.length ≤ size
  hi : head + size + size < 18446744073709551616
  t0 : l.getD 0 0 = head + q.length
  t1 : l.getD 1 0 = head
  full : ∀ i : Nat, i < q.length → l.getD (tcell size (head + i)) 0 = head + i + 1 ∧ l.getD (tcell size (head + i) + 1) 0 = q.getD i 0
  free : ∀ i : Nat, q.length ≤ i → i < size → l.getD (tcell size (head + i)) 0 = head + i
theorem w64_in {n : Int} (h0 : 0 ≤ n) (h1 : n < 18446744073709551616) : w64 n = n := by
  unfold w64; exact IntWalk.u64_in n ⟨h0, by omega⟩
theorem getD_set (l : List Int) (i j : Nat) (x : Int) (h : i < l.length) : (l.set i x).getD j 0 = if i = j then x else l.getD j 0 := by
  simp only [List.getD_eq_getElem?_getD, List.getElem?_set]
  by_cases e : i = j
  · subst e; simp [h]
  · simp [e]
theorem words_set {l : List Int} {i : Nat} {x : Int} (hw : Words l) (h0 : 0 ≤ x) (h1 : x < 18446744073709551616) : Words (l.set i x) := by
  intro j
  by_cases hi : i < l.length
  · rw [getD_set l i j x hi]
    split
    · exact ⟨h0, h1⟩
    · exact hw j
  · rw [List.set_eq_of_length_le (by omega)]; exact hw j
theorem tc_lt {size : Nat} {pl : Int} (h : 2 ≤ size) : tcell size pl + 1 < 2 + 2 * size := by
  unfold tcell
  have hm0 : 0 ≤ pl % (size : Int) := Int.emod_nonneg _ (by omega)
  have hm1 : pl % (size : Int) < size := Int.emod_lt_of_pos _ (by omega)
  omega
theorem tc_ne {size : Nat} {a b : Int} (h : 2 ≤ size) (hab : a < b) (hb : b < a + size) : tcell size a ≠ tcell size b := by
  unfold tcell
  intro e
  have hm0 : 0 ≤ a % (size : Int) := Int.emod_nonneg _ (by omega)
  have hm1 : 0 ≤ b % (size : Int) := Int.emod_nonneg _ (by omega)
  have e2 : a % (size : Int) = b % (size : Int) := by omega
  have hd : ((b - a) % (size : Int)) = 0 := Int.emod_eq_zero_of_dvd (Int.dvd_of_emod_eq_zero (by rw [Int.sub_emod, e2]; simp))
  rw [Int.emod_eq_of_lt (by omega) (by omega)] at hd
  omega
theorem tc_far {size : Nat} {a : Int} : tcell size (a + size) = tcell size a := by
  unfold tcell
  rw [Int.add_emod_right]
theorem tc_ge {size : Nat} {a : Int} : 2 ≤ tcell size a := by unfold tcell; omega
theorem tc_odd {size : Nat} {a b : Int} : tcell size a ≠ tcell size b + 1 := by unfold tcell; omega
/-- The first two actions of a put, of a take. -/
theorem put_look (size : Nat) (l : List Int) (x pl sv aAt aX why : Int) : step size l ⟨1, x, 0, pl, sv, false, aAt, aX, why⟩ = (l, ⟨1, x, 1, l.getD 0 0, sv, false, aAt, aX, why⟩, ⟨1, 0, l.getD 0 0, l.getD 0 0, true⟩) := by
  simp [step, ecell]
theorem take_look (size : Nat) (l : List Int) (x pl sv aAt aX why : Int) : step size l ⟨2, x, 0, pl, sv, false, aAt, aX, why⟩ = (l, ⟨2, x, 1, l.getD 1 0, sv, false, aAt, aX, why⟩, ⟨1, 1, l.getD 1 0, l.getD 1 0, true⟩) := by
  simp [step, ecell]
theorem put_full {size : Nat} {head : Int} {q l : List Int} (hs : 2 ≤ size) (h : Q size head q l) (hf : q.length = size) (x : Int) :
    Ends size 2 l ⟨1, x, 0, 0, 0, false, 0, 0, 0⟩ l ⟨1, x, 1, head + q.length, 0, true, 0, 0, 51⟩ := by
  have hl := (h.full 0 (by omega)).1
  have hi := h.hi
  have h0 := h.h0
  have e : l.getD (tcell size (head + q.length)) 0 = head + 1 := by
    rw [hf, tc_far]; simpa using hl
  refine ⟨rfl, h.words, ?_⟩
  rw [put_look, h.t0]
  refine ⟨rfl, h.words, ?_⟩
  have e2 : w64 (head + q.length) = head + q.length := w64_in (by omega) (by omega)
  have hlt : head + 1 < head + (q.length : Int) := by omega
  simp only [step, far, e]
  simp [e2, hlt, Ends]
theorem take_none {size : Nat} {head : Int} {q l : List Int} (hs : 2 ≤ size) (h : Q size head q l) (hf : q.length = 0) :
    Ends size 2 l ⟨2, 0, 0, 0, 0, false, 0, 0, 0⟩ l ⟨2, 0, 1, head, 0, true, 0, 0, 110⟩ := by
  have hl := h.free 0 (by omega) (by omega)
  have hi := h.hi
  have h0 := h.h0
  have e : l.getD (tcell size head) 0 = head := by simpa using hl
  refine ⟨rfl, h.words, ?_⟩
  rw [take_look, h.t1]
  refine ⟨rfl, h.words, ?_⟩
  have e2 : w64 (head + 1) = head + 1 := w64_in (by omega) (by omega)
  have hlt : head < head + 1 := by omega
  simp only [step, far, e]
  simp [e2, hlt, Ends]
theorem len_ends {size : Nat} {head : Int} {q l : List Int} (hs : 2 ≤ size) (h : Q size head q l) :
    Ends size 2 l ⟨3, 0, 0, 0, 0, false, 0, 0, 0⟩ l ⟨3, 0, 1, head, 0, true, 0, q.length, 0⟩ := by
  have hi := h.hi
  have h0 := h.h0
  have hq := h.hq
  refine ⟨rfl, h.words, ?_⟩
  have e1 : (step size l ⟨3, 0, 0, 0, 0, false, 0, 0, 0⟩) = (l, ⟨3, 0, 1, head, 0, false, 0, 0, 0⟩, ⟨1, 1, head, head, true⟩) := by
    simp only [step]; rw [h.t1]; simp
  rw [e1]
  refine ⟨rfl, h.words, ?_⟩
  have e2 : w64 (head + q.length - head) = q.length := by
    rw [show head + (q.length : Int) - head = q.length by omega]; exact w64_in (by omega) (by omega)
  simp only [step]
  rw [h.t0, e2]
  have hm : min (q.length : Int) (size : Int) = q.length := by omega
  simp [hm, Ends]
/-- A put where there is room. -/
theorem put_ok {size : Nat} {head : Int} {q l : List Int} (hs : 2 ≤ size) (h : Q size head q l) (hf : q.length < size) (x : Int) (hx : 0 ≤ x ∧ x < 18446744073709551616) (hh : head + size + size + 1 < 18446744073709551616) :
    ∃ lf, Ends size 5 l ⟨1, x, 0, 0, 0, false, 0, 0, 0⟩ lf ⟨1, x, 4, head + q.length, 0, true, head + q.length, x, 0⟩ ∧ Q size head (q ++ [x]) lf := by
  have hi := h.hi
  have h0 := h.h0
  have hn := h.len
  have hfree := h.free q.length (Nat.le_refl _) hf
  obtain ⟨tl, htl⟩ : ∃ tl : Int, tl = head + (q.length : Int) := ⟨_, rfl⟩
  rw [← htl] at hfree ⊢
  have ht0 : l.getD 0 0 = tl := by rw [h.t0, htl]
  have c1 := tc_lt (pl := tl) hs
  have cg := tc_ge (size := size) (a := tl)
  obtain ⟨c, hc⟩ : ∃ c, c = tcell size tl := ⟨_, rfl⟩
  rw [← hc] at hfree c1 cg
  have w1 : w64 (tl + 1) = tl + 1 := w64_in (by omega) (by omega)
  have w0 : w64 tl = tl := w64_in (by omega) (by omega)
  have hw2 : Words (l.set 0 (tl + 1)) := words_set h.words (by omega) (by omega)
  have hw3 : Words ((l.set 0 (tl + 1)).set (c + 1) x) := words_set hw2 hx.1 hx.2
  have hw4 : Words (((l.set 0 (tl + 1)).set (c + 1) x).set c (tl + 1)) := words_set hw3 (by omega) (by omega)
  refine ⟨((l.set 0 (tl + 1)).set (c + 1) x).set c (tl + 1), ?_, ?_⟩
  · refine ⟨rfl, h.words, ?_⟩
    rw [put_look, ht0]
    refine ⟨rfl, h.words, ?_⟩
    have e1 : step size l ⟨1, x, 1, tl, 0, false, 0, 0, 0⟩ = (l, ⟨1, x, 2, tl, 0, false, 0, 0, 0⟩, ⟨1, c, tl, tl, true⟩) := by
      simp only [step, far, ← hc, hfree]
      simp [w0]
    rw [e1]
    refine ⟨rfl, h.words, ?_⟩
    have e2 : step size l ⟨1, x, 2, tl, 0, false, 0, 0, 0⟩ = (l.set 0 (tl + 1), ⟨1, x, 3, tl, 0, false, 0, 0, 0⟩, ⟨5, 0, tl, tl + 1, true⟩) := by
      simp only [step, ecell]
      have := ht0
      simp only [List.getD_eq_getElem?_getD] at this
      simp [this, w1]
    rw [e2]
    refine ⟨rfl, hw2, ?_⟩
    have e3 : step size (l.set 0 (tl + 1)) ⟨1, x, 3, tl, 0, false, 0, 0, 0⟩ = ((l.set 0 (tl + 1)).set (c + 1) x, ⟨1, x, 4, tl, 0, false, 0, 0, 0⟩, ⟨2, c + 1, (l.set 0 (tl + 1)).getD (c + 1) 0, x, true⟩) := by
      simp [step, ← hc]
    rw [e3]
    refine ⟨rfl, hw3, ?_⟩
    simp [step, ← hc, w1, Ends]
  · have g (j : Nat) : (((l.set 0 (tl + 1)).set (c + 1) x).set c (tl + 1)).getD j 0 = if c = j then tl + 1 else if c + 1 = j then x else if 0 = j then tl + 1 else l.getD j 0 := by
      rw [getD_set _ _ _ _ (by simp; omega), getD_set _ _ _ _ (by simp; omega), getD_set _ _ _ _ (by omega)]
    refine ⟨by simpa using hn, hw4, h0, by simp; omega, hi, ?_, ?_, ?_, ?_⟩
    · rw [g, if_neg (by omega), if_neg (by omega), if_pos rfl]; simp; omega
    · rw [g, if_neg (by omega), if_neg (by omega), if_neg (by omega)]; exact h.t1
    · intro i hi2
      simp at hi2
      by_cases e : i = q.length
      · subst e
        rw [← htl, ← hc, g, g, if_pos rfl, if_neg (by omega), if_pos rfl]
        simp [List.getD_eq_getElem?_getD]
      · have hl := h.full i (by omega)
        have n1 : tcell size (head + i) ≠ c := by rw [hc]; exact tc_ne hs (by omega) (by omega)
        have n2 : c + 1 ≠ tcell size (head + i) := by rw [hc]; exact (tc_odd).symm
        have n3 : c ≠ tcell size (head + i) + 1 := by rw [hc]; exact tc_odd
        have n4 := tc_ge (size := size) (a := head + i)
        rw [g, g, if_neg (by omega), if_neg (by omega), if_neg (by omega), if_neg (by omega), if_neg (by omega), if_neg (by omega)]
        refine ⟨hl.1, ?_⟩
        rw [hl.2, List.getD_eq_getElem?_getD, List.getD_eq_getElem?_getD, List.getElem?_append_left (by omega)]
    · intro i hi1 hi2
      simp at hi1
      have hl := h.free i (by omega) hi2
      have n1 : c ≠ tcell size (head + i) := by rw [hc]; exact tc_ne hs (by omega) (by omega)
      have n2 : c + 1 ≠ tcell size (head + i) := by rw [hc]; exact (tc_odd).symm
      have n4 := tc_ge (size := size) (a := head + i)
      rw [g, if_neg (by omega), if_neg (by omega), if_neg (by omega)]
      exact hl
/-- A take where there is something. -/
theorem take_ok {size : Nat} {head : Int} {q l : List Int} (hs : 2 ≤ size) (h : Q size head q l) (hf : 0 < q.length) (hh : head + 1 + size + size < 18446744073709551616) :
    ∃ lf, Ends size 5 l ⟨2, 0, 0, 0, 0, false, 0, 0, 0⟩ lf ⟨2, 0, 4, head, q.getD 0 0, true, head, q.getD 0 0, 0⟩ ∧ Q size (head + 1) q.tail lf := by
  have hi := h.hi
  have h0 := h.h0
  have hn := h.len
  have hqq := h.hq
  have hfull := h.full 0 hf
  simp only [Int.natCast_zero, Int.add_zero] at hfull
  have c1 := tc_lt (pl := head) hs
  have cg := tc_ge (size := size) (a := head)
  obtain ⟨c, hc⟩ : ∃ c, c = tcell size head := ⟨_, rfl⟩
  rw [← hc] at hfull c1 cg
  have w1 : w64 (head + 1) = head + 1 := w64_in (by omega) (by omega)
  have w2 : w64 (head + size) = head + size := w64_in (by omega) (by omega)
  have hw2 : Words (l.set 1 (head + 1)) := words_set h.words (by omega) (by omega)
  have hw4 : Words ((l.set 1 (head + 1)).set c (head + size)) := words_set hw2 (by omega) (by omega)
  have hsv : (l.set 1 (head + 1)).getD (c + 1) 0 = q.getD 0 0 := by rw [getD_set _ _ _ _ (by omega), if_neg (by omega)]; exact hfull.2
  refine ⟨(l.set 1 (head + 1)).set c (head + size), ?_, ?_⟩
  · refine ⟨rfl, h.words, ?_⟩
    rw [take_look, h.t1]
    refine ⟨rfl, h.words, ?_⟩
    have e1 : step size l ⟨2, 0, 1, head, 0, false, 0, 0, 0⟩ = (l, ⟨2, 0, 2, head, 0, false, 0, 0, 0⟩, ⟨1, c, head + 1, head + 1, true⟩) := by
      simp only [step, far, ← hc, hfull.1]
      simp [w1]
    rw [e1]
    refine ⟨rfl, h.words, ?_⟩
    have e2 : step size l ⟨2, 0, 2, head, 0, false, 0, 0, 0⟩ = (l.set 1 (head + 1), ⟨2, 0, 3, head, 0, false, 0, 0, 0⟩, ⟨5, 1, head, head + 1, true⟩) := by
      simp only [step, ecell]
      have := h.t1
      simp only [List.getD_eq_getElem?_getD] at this
      simp [this, w1]
    rw [e2]
    refine ⟨rfl, hw2, ?_⟩
    have e3 : step size (l.set 1 (head + 1)) ⟨2, 0, 3, head, 0, false, 0, 0, 0⟩ = (l.set 1 (head + 1), ⟨2, 0, 4, head, q.getD 0 0, false, 0, 0, 0⟩, ⟨1, c + 1, q.getD 0 0, q.getD 0 0, true⟩) := by
      simp only [step, ← hc, hsv]; simp
    rw [e3]
    refine ⟨rfl, hw2, ?_⟩
    simp [step, ← hc, w2, Ends]
  · have g (j : Nat) : ((l.set 1 (head + 1)).set c (head + size)).getD j 0 = if c = j then head + size else if 1 = j then head + 1 else l.getD j 0 := by
      rw [getD_set _ _ _ _ (by simp; omega), getD_set _ _ _ _ (by omega)]
    have hqt : q.tail.length = q.length - 1 := by simp
    refine ⟨by simpa using hn, hw4, by omega, by omega, by omega, ?_, ?_, ?_, ?_⟩
    · rw [g, if_neg (by omega), if_neg (by omega), h.t0]; omega
    · rw [g, if_neg (by omega), if_pos rfl]
    · intro i hi2
      have hl := h.full (i + 1) (by omega)
      have e : head + 1 + (i : Int) = head + ((i + 1 : Nat) : Int) := by omega
      rw [e]
      have n1 : c ≠ tcell size (head + ((i + 1 : Nat) : Int)) := by rw [hc]; exact tc_ne hs (by omega) (by omega)
      have n3 : c ≠ tcell size (head + ((i + 1 : Nat) : Int)) + 1 := by rw [hc]; exact tc_odd
      have n4 := tc_ge (size := size) (a := head + ((i + 1 : Nat) : Int))
      rw [g, g, if_neg n1, if_neg (by omega), if_neg n3, if_neg (by omega)]
      refine ⟨hl.1, ?_⟩
      rw [hl.2, List.getD_eq_getElem?_getD, List.getD_eq_getElem?_getD, List.getElem?_tail]
    · intro i hi1 hi2
      have e : head + 1 + (i : Int) = head + ((i + 1 : Nat) : Int) := by omega
      rw [e]
      by_cases el : i + 1 = size
      · have e3 : tcell size (head + ((i + 1 : Nat) : Int)) = c := by rw [el, tc_far, hc]
        rw [g, e3, if_pos rfl, el]
      · have hl := h.free (i + 1) (by omega) (by omega)
        have n1 : c ≠ tcell size (head + ((i + 1 : Nat) : Int)) := by rw [hc]; exact tc_ne hs (by omega) (by omega)
        have n4 := tc_ge (size := size) (a := head + ((i + 1 : Nat) : Int))
        rw [g, if_neg n1, if_neg (by omega)]
        exact hl
end M
end Go.Proofs.YthkmknnajbpjfaaDoor
