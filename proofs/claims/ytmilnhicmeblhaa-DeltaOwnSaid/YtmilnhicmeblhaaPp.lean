/- The package delta: two lists side by side, plain. -/
import Derived.Test.YtmilnhicmeblhaaKy
import Derived.Test.YtmilnhicmeblhaaOp
import Derived.Sort.Walk0
namespace Go.Proofs.Ytmilnhicmeblhaa
open Go.RowKit Go.Sort
set_option maxRecDepth 100000
set_option linter.unusedVariables false
set_option linter.unusedSimpArgs false
def bts (a : ByteArray) : List UInt8 := a.data.toList
theorem bts_inj {a b : ByteArray} (h : bts a = bts b) : a = b := by
  cases a; cases b
  exact congrArg _ (Array.toList_inj.1 h)
theorem bts_lt_of {a b : ByteArray} (h1 : ¬ bts a < bts b) (h2 : a ≠ b) : bts b < bts a := by
  rcases Decidable.em (bts b < bts a) with h | h
  · exact h
  · exact absurd (bts_inj (List.le_antisymm (List.not_lt.1 h) (List.not_lt.1 h1))) h2
theorem bts_irrefl (a : ByteArray) : ¬ bts a < bts a := List.lt_irrefl _
theorem bts_ne {a b : ByteArray} (h : bts a < bts b) : a ≠ b := by rintro rfl; exact bts_irrefl _ h
theorem bts_trans {a b c : ByteArray} (h : bts a < bts b) (k : bts b < bts c) : bts a < bts c := List.lt_trans h k
theorem bytesLess_lt (a b : ByteArray) : Op.bytesLess a.toList b.toList = decide (bts a < bts b) := by
  unfold bts
  rw [bytesLess_eq, ByteArray.toList_eq, ByteArray.toList_eq]
theorem ba_ne {a b : ByteArray} (h : ¬ a = b) : ¬ a.toList = b.toList := by
  intro e
  rw [ByteArray.toList_eq, ByteArray.toList_eq] at e
  apply h
  cases a; cases b
  exact congrArg _ (Array.toList_inj.1 e)
theorem ba_beq {a b : ByteArray} (h : ¬ a = b) : (a.toList == b.toList) = false := by simpa using ba_ne h
/-- A name, and its places in two lists. -/
abbrev It := ByteArray × Option Nat × Option Nat
/-- Two lists of rising names, side by side: from places i and k on. -/
def zipP : List ByteArray → List ByteArray → Nat → Nat → List It
  | [], [], _, _ => []
  | x :: r, [], i, k => (x, some i, none) :: zipP r [] (i + 1) k
  | [], y :: s, i, k => (y, none, some k) :: zipP [] s i (k + 1)
  | x :: r, y :: s, i, k =>
    if x = y then (x, some i, some k) :: zipP r s (i + 1) (k + 1)
    else if bts x < bts y then (x, some i, none) :: zipP r (y :: s) (i + 1) k
    else (y, none, some k) :: zipP (x :: r) s i (k + 1)
termination_by a b => a.length + b.length
theorem zipP_len : ∀ (a b : List ByteArray) (i k : Nat), (zipP a b i k).length ≤ a.length + b.length
  | [], [], i, k => by simp [zipP]
  | x :: r, [], i, k => by have := zipP_len r [] (i + 1) k; simp only [zipP, List.length_cons] at this ⊢; omega
  | [], y :: s, i, k => by have := zipP_len [] s i (k + 1); simp only [zipP, List.length_cons] at this ⊢; omega
  | x :: r, y :: s, i, k => by
    unfold zipP
    split
    · have := zipP_len r s (i + 1) (k + 1); simp only [List.length_cons] at this ⊢; omega
    · split
      · have := zipP_len r (y :: s) (i + 1) k; simp only [List.length_cons] at this ⊢; omega
      · have := zipP_len (x :: r) s i (k + 1); simp only [List.length_cons] at this ⊢; omega
termination_by a b => a.length + b.length
theorem drop_at {α : Type} {l : List α} {j : Nat} {x : α} (h : l[j]? = some x) : l.drop j = x :: l.drop (j + 1) := by
  have hl := (List.getElem?_eq_some_iff.1 h).1
  rw [List.drop_eq_getElem_cons hl]
  congr 1
  exact (List.getElem?_eq_some_iff.1 h).2
theorem drop_end {α : Type} {l : List α} {j : Nat} (h : l.length ≤ j) : l.drop j = [] := List.drop_eq_nil_iff.2 h
/-- One round, in each way. -/
theorem zipP_a {a b : List ByteArray} {i k : Nat} {x : ByteArray} (hx : a[i]? = some x) (hk : b.length ≤ k) : zipP (a.drop i) (b.drop k) i k = (x, some i, none) :: zipP (a.drop (i + 1)) (b.drop k) (i + 1) k := by
  rw [drop_at hx, drop_end hk]; simp only [zipP]
theorem zipP_b {a b : List ByteArray} {i k : Nat} {y : ByteArray} (hi : a.length ≤ i) (hy : b[k]? = some y) : zipP (a.drop i) (b.drop k) i k = (y, none, some k) :: zipP (a.drop i) (b.drop (k + 1)) i (k + 1) := by
  rw [drop_at hy, drop_end hi]; simp only [zipP]
theorem zipP_eq {a b : List ByteArray} {i k : Nat} {x : ByteArray} (hx : a[i]? = some x) (hy : b[k]? = some x) : zipP (a.drop i) (b.drop k) i k = (x, some i, some k) :: zipP (a.drop (i + 1)) (b.drop (k + 1)) (i + 1) (k + 1) := by
  rw [drop_at hx, drop_at hy]; conv => lhs; unfold zipP
  rw [if_pos rfl]
theorem zipP_lt {a b : List ByteArray} {i k : Nat} {x y : ByteArray} (hx : a[i]? = some x) (hy : b[k]? = some y) (hl : bts x < bts y) : zipP (a.drop i) (b.drop k) i k = (x, some i, none) :: zipP (a.drop (i + 1)) (b.drop k) (i + 1) k := by
  rw [drop_at hx, drop_at hy]; conv => lhs; unfold zipP
  rw [if_neg (bts_ne hl), if_pos hl]
theorem zipP_gt {a b : List ByteArray} {i k : Nat} {x y : ByteArray} (hx : a[i]? = some x) (hy : b[k]? = some y) (hl : bts y < bts x) : zipP (a.drop i) (b.drop k) i k = (y, none, some k) :: zipP (a.drop i) (b.drop (k + 1)) i (k + 1) := by
  rw [drop_at hx, drop_at hy]; conv => lhs; unfold zipP
  rw [if_neg (bts_ne hl).symm, if_neg (fun h => bts_irrefl _ (bts_trans h hl))]
theorem zipP_nil {a b : List ByteArray} {i k : Nat} (hi : a.length ≤ i) (hk : b.length ≤ k) : zipP (a.drop i) (b.drop k) i k = [] := by
  rw [drop_end hi, drop_end hk]; simp only [zipP]
/-- The address of an element. -/
def adr (v : Value) (s : Nat) : Option Nat → Value
  | none => .pointer none
  | some i => match v with
    | .slice (some a) _ _ => .pointer (some (a.add (i * s)))
    | _ => .pointer none
end Go.Proofs.Ytmilnhicmeblhaa
