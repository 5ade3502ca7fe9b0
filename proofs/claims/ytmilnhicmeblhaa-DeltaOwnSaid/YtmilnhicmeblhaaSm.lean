/- The package delta, plain: sums of totals. -/
import Derived.Test.YtmilnhicmeblhaaPj
namespace Go.Proofs.Ytmilnhicmeblhaa
open Go.RowKit Go.Sort
set_option linter.unusedVariables false
set_option linter.unusedSimpArgs false
def addF (_ : ByteArray) : Option Int → Option Int → Option Int
  | a, none => a
  | a, some n => some (IntKind.u64.wrap (a.getD 0 + n))
theorem addF_none (k : ByteArray) : addF k none none = none := rfl
/-- Sums, and one total more. -/
def addT (S t : List Ct) : List Ct := made addF S t
def allF (L : List (List Ct)) : List Ct := L.foldl addT []
/-- A list of counts in order, with words for numbers and short keys. -/
structure Ord (l : List Ct) : Prop where
  st : Srt l
  ws : WC l
  ky : ∀ x ∈ l, keyF x.1 = true
theorem Ord.nil : Ord [] := ⟨List.Pairwise.nil, (by intro x h; cases h), (by intro x h; cases h)⟩
theorem Ord.right {l : List Ct} (h : rightC l = true) (w : WC l) : Ord l := ⟨(rightC_iff.1 h).2.1, w, (rightC_iff.1 h).1⟩
theorem keyF_size {s : ByteArray} (h : keyF s = true) : s.size ≤ 256 := by
  unfold keyF at h
  simp at h
  exact h.2
theorem Ord.sz {l : List Ct} (h : Ord l) : ∀ x ∈ l, x.1.size ≤ 256 := fun x hx => keyF_size (h.ky x hx)
theorem Ord.take {l : List Ct} (h : Ord l) (j : Nat) : Ord (l.take j) :=
  ⟨h.st.sublist (List.take_sublist _ _), fun x hx => h.ws x (List.mem_of_mem_take hx), fun x hx => h.ky x (List.mem_of_mem_take hx)⟩
theorem addT_lk {S t : List Ct} (hS : Ord S) (ht : Ord t) (k : ByteArray) : lk (addT S t) k = addF k (lk S k) (lk t k) := (made_srt addF addF_none S t hS.st ht.st).2 k
theorem Ord.add {S t : List Ct} (hS : Ord S) (ht : Ord t) : Ord (addT S t) := by
  refine ⟨(made_srt addF addF_none S t hS.st ht.st).1, fun x hx => ?_, made_keys hS.ky ht.ky⟩
  have := made_val addF_none hS.st ht.st hx
  unfold addF at this
  split at this
  · exact hS.ws.lk this
  · rw [← Option.some.inj this]; exact wrap_in _
theorem Ord.all {L : List (List Ct)} (h : ∀ t ∈ L, Ord t) : ∀ {S : List Ct}, Ord S → Ord (L.foldl addT S) := by
  induction L with
  | nil => intro S hS; exact hS
  | cons t L ih =>
    intro S hS
    exact ih (fun t' ht' => h t' (List.mem_cons_of_mem _ ht')) (hS.add (h t List.mem_cons_self))
theorem fold_lk {L : List (List Ct)} (h : ∀ t ∈ L, Ord t) : ∀ {S : List Ct}, Ord S → ∀ k, lk (L.foldl addT S) k = L.foldl (fun a t => addF k a (lk t k)) (lk S k) := by
  induction L with
  | nil => intro S hS k; rfl
  | cons t L ih =>
    intro S hS k
    rw [List.foldl_cons, List.foldl_cons, ih (fun t' ht' => h t' (List.mem_cons_of_mem _ ht')) (hS.add (h t List.mem_cons_self)), addT_lk hS (h t List.mem_cons_self)]
theorem addF_comm (k : ByteArray) (a x y : Option Int) : addF k (addF k a x) y = addF k (addF k a y) x := by
  cases x with
  | none => cases y <;> rfl
  | some x =>
    cases y with
    | none => rfl
    | some y =>
      simp only [addF, Option.getD_some, Option.some.injEq, IntKind.wrap_u64]
      omega
/-- In whatever order. -/
theorem allF_perm {L L' : List (List Ct)} (h : ∀ t ∈ L, Ord t) (p : L.Perm L') : allF L = allF L' := by
  have h' : ∀ t ∈ L', Ord t := fun t ht => h t (p.mem_iff.2 ht)
  refine Srt.ext (Ord.all h Ord.nil).st (Ord.all h' Ord.nil).st (fun k => ?_)
  unfold allF
  rw [fold_lk h Ord.nil, fold_lk h' Ord.nil]
  exact p.foldl_eq' (fun x _ y _ z => addF_comm k z _ _) _
theorem allF_snoc (L : List (List Ct)) (t : List Ct) : allF (L ++ [t]) = addT (allF L) t := by unfold allF; rw [List.foldl_append]; rfl
theorem addT_nil (S : List Ct) (hS : Ord S) : addT S [] = S :=
  Srt.ext (hS.add Ord.nil).st hS.st (fun k => by rw [addT_lk hS Ord.nil]; rfl)
theorem nil_addT (t : List Ct) (ht : Ord t) : addT [] t = t :=
  Srt.ext (Ord.nil.add ht).st ht.st (fun k => by
    rw [addT_lk Ord.nil ht]
    cases h : lk t k with
    | none => rfl
    | some n =>
      have := ht.ws.lk h
      unfold inW at this
      simp only [addF, lk, Option.getD_none, Option.some.injEq, IntKind.wrap_u64]
      omega)
theorem allF_one (t : List Ct) (ht : Ord t) : allF [t] = t := nil_addT t ht
/-- One count of a total more. -/
theorem addT_step {S t : List Ct} (hS : Ord S) (ht : Ord t) {j : Nat} {c : Ct} (hj : t[j]? = some c) (k : ByteArray) :
    lk (addT S (t.take (j + 1))) k = if c.1 = k then some (IntKind.u64.wrap ((lk (addT S (t.take j)) c.1).getD 0 + c.2)) else lk (addT S (t.take j)) k := by
  have h1 : Srt (t.take j ++ [c]) := by
    have := (ht.take (j + 1)).st
    rwa [List.take_add_one, hj] at this
  have hn : lk (t.take j) c.1 = none := lk_none (fun z hz => bts_ne ((List.pairwise_append.1 h1).2.2 z hz c (by simp)))
  have hl : ∀ k, lk (t.take (j + 1)) k = if c.1 = k then some c.2 else lk (t.take j) k := by
    intro k
    rw [List.take_add_one, hj]
    show lk (t.take j ++ [c]) k = _
    by_cases e : c.1 = k
    · rw [if_pos e, ← e]
      exact lk_of h1 (by simp)
    · rw [if_neg e]
      generalize t.take j = l
      induction l with
      | nil => simp [lk, e]
      | cons y r ih =>
        rw [List.cons_append, lk, lk, ih]
  rw [addT_lk hS (ht.take _), addT_lk hS (ht.take _), addT_lk hS (ht.take _), hl, hn]
  by_cases e : c.1 = k
  · rw [if_pos e, if_pos e, ← e]; rfl
  · rw [if_neg e, if_neg e]
theorem allF_len (L : List (List Ct)) : ∀ (m : Nat), (∀ t ∈ L, t.length ≤ m) → ∀ S, (L.foldl addT S).length ≤ S.length + m * L.length := by
  induction L with
  | nil => intro m _ S; simp
  | cons t L ih =>
    intro m h S
    have h1 := ih m (fun t' ht' => h t' (List.mem_cons_of_mem _ ht')) (addT S t)
    have h2 := made_len addF S t
    have h3 := h t List.mem_cons_self
    rw [List.foldl_cons, List.length_cons, Nat.mul_succ]
    unfold addT at *
    omega
end Go.Proofs.Ytmilnhicmeblhaa
