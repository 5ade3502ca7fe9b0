/- States of counters that merge: plain mathematics of sorted lists of nodes. -/
import Derived.Test.YtanbfejhhnhabaaRows
namespace Go.Proofs.Ytanbfejhhnhabaa
set_option linter.unusedVariables false
set_option linter.unusedSimpArgs false
def bts (a : ByteArray) : List UInt8 := a.data.toList
theorem bts_inj {a b : ByteArray} (h : bts a = bts b) : a = b := by
  cases a; cases b
  exact congrArg _ (Array.toList_inj.1 h)
theorem bts_lt_of {a b : ByteArray} (h1 : ¬ bts a < bts b) (h2 : a ≠ b) : bts b < bts a := by
  rcases Decidable.em (bts b < bts a) with h | h
  · exact h
  · exact absurd (bts_inj (List.le_antisymm (List.not_lt.1 h) (List.not_lt.1 h1))) h2
theorem bts_irrefl (a : ByteArray) : ¬ bts a < bts a := List.lt_irrefl _
theorem bts_ne {a b : ByteArray} (h : bts a < bts b) : a ≠ b := by rintro rfl; exact bts_irrefl _ h
theorem bts_trans {a b c : ByteArray} (h : bts a < bts b) (k : bts b < bts c) : bts a < bts c := List.lt_trans h k
abbrev Nd := ByteArray × Int × Int
/-- What stands at a name. -/
def lk (l : List Nd) (s : ByteArray) : Option (Int × Int) :=
  match l with
  | [] => none
  | x :: r => if x.1 = s then some x.2 else lk r s
def Srt (l : List Nd) : Prop := l.Pairwise (fun x y => bts x.1 < bts y.1)
theorem Srt.nil : Srt [] := List.Pairwise.nil
def putL : List Nd → Nd → List Nd
  | [], x => [x]
  | y :: r, x => if bts x.1 < bts y.1 then x :: y :: r else if y.1 = x.1 then x :: r else y :: putL r x
theorem lk_putL (l : List Nd) (x : Nd) (s : ByteArray) : lk (putL l x) s = if s = x.1 then some x.2 else lk l s := by
  induction l with
  | nil => simp [putL, lk, eq_comm]
  | cons y r ih =>
    unfold putL
    split
    · simp [lk, eq_comm]
    · split
      · rename_i h
        simp only [lk]
        rw [h]
        by_cases e : s = x.1
        · rw [if_pos e.symm, if_pos e]
        · rw [if_neg (Ne.symm e), if_neg e, if_neg (Ne.symm e)]
      · rename_i h
        simp only [lk, ih]
        by_cases e : s = x.1
        · rw [if_pos e, if_neg (by rw [e]; exact h), if_pos e]
        · rw [if_neg e, if_neg e]
theorem mem_putL {l : List Nd} {x z : Nd} (h : z ∈ putL l x) : z = x ∨ z ∈ l := by
  induction l with
  | nil => simp [putL] at h; exact .inl h
  | cons y r ih =>
    unfold putL at h
    split at h
    · simpa using h
    · split at h
      · rcases List.mem_cons.1 h with h | h
        · exact .inl h
        · exact .inr (List.mem_cons_of_mem _ h)
      · rcases List.mem_cons.1 h with h | h
        · exact .inr (by rw [h]; exact List.mem_cons_self)
        · rcases ih h with h | h
          · exact .inl h
          · exact .inr (List.mem_cons_of_mem _ h)
theorem Srt.put {l : List Nd} (h : Srt l) (x : Nd) : Srt (putL l x) := by
  induction l with
  | nil => exact List.pairwise_singleton _ _
  | cons y r ih =>
    obtain ⟨h1, h2⟩ := List.pairwise_cons.1 h
    unfold putL
    split
    · rename_i hx
      refine List.pairwise_cons.2 ⟨fun z hz => ?_, h⟩
      rcases List.mem_cons.1 hz with rfl | hz
      · exact hx
      · exact bts_trans hx (h1 z hz)
    · split
      · rename_i he
        exact List.pairwise_cons.2 ⟨fun z hz => by rw [← he]; exact h1 z hz, h2⟩
      · rename_i hx he
        refine List.pairwise_cons.2 ⟨fun z hz => ?_, ih h2⟩
        rcases mem_putL hz with rfl | hz
        · exact bts_lt_of hx (fun e => he e.symm)
        · exact h1 z hz
theorem lk_none {l : List Nd} {s : ByteArray} (h : ∀ x ∈ l, x.1 ≠ s) : lk l s = none := by
  induction l with
  | nil => rfl
  | cons y r ih =>
    simp only [lk]
    rw [if_neg (h y List.mem_cons_self)]
    exact ih (fun x hx => h x (List.mem_cons_of_mem _ hx))
theorem lk_mem {l : List Nd} {s : ByteArray} {v : Int × Int} (h : lk l s = some v) : (s, v) ∈ l := by
  induction l with
  | nil => cases h
  | cons y r ih =>
    simp only [lk] at h
    split at h
    · rename_i e
      cases h
      subst e
      exact List.mem_cons_self
    · exact List.mem_cons_of_mem _ (ih h)
theorem lk_of_mem {l : List Nd} (hs : Srt l) {x : Nd} (h : x ∈ l) : lk l x.1 = some x.2 := by
  induction l with
  | nil => cases h
  | cons y r ih =>
    obtain ⟨h1, h2⟩ := List.pairwise_cons.1 hs
    simp only [lk]
    rcases List.mem_cons.1 h with rfl | h
    · rw [if_pos rfl]
    · rw [if_neg (bts_ne (h1 x h))]
      exact ih h2 h
theorem lk_some_iff (l : List Nd) (s : ByteArray) : (lk l s).isSome = true ↔ s ∈ l.map (·.1) := by
  induction l with
  | nil => simp [lk]
  | cons y r ih =>
    simp only [lk, List.map_cons, List.mem_cons]
    by_cases e : y.1 = s
    · rw [if_pos e]; simp [e]
    · rw [if_neg e, ih]
      constructor
      · exact fun h => .inr h
      · rintro (h | h)
        · exact absurd h.symm e
        · exact h
/-- Two sorted lists in which the same stands are one. -/
theorem Srt.ext : ∀ {l1 l2 : List Nd}, Srt l1 → Srt l2 → (∀ s, lk l1 s = lk l2 s) → l1 = l2
  | [], [], _, _, _ => rfl
  | [], y :: r, _, _, h => by have := h y.1; simp [lk] at this
  | x :: r, [], _, _, h => by have := h x.1; simp [lk] at this
  | x :: r1, y :: r2, h1, h2, h => by
    obtain ⟨a1, a2⟩ := List.pairwise_cons.1 h1
    obtain ⟨b1, b2⟩ := List.pairwise_cons.1 h2
    have hxy : x.1 = y.1 := by
      rcases Decidable.em (x.1 = y.1) with e | e
      · exact e
      · exfalso
        rcases Decidable.em (bts x.1 < bts y.1) with hl | hl
        · have h3 := h x.1
          rw [lk_of_mem h1 List.mem_cons_self] at h3
          have := lk_mem h3.symm
          rcases List.mem_cons.1 this with e2 | e2
          · exact e (congrArg (·.1) e2)
          · exact bts_irrefl _ (bts_trans hl (b1 _ e2))
        · have hl2 := bts_lt_of hl e
          have h3 := h y.1
          rw [lk_of_mem h2 List.mem_cons_self] at h3
          have := lk_mem h3
          rcases List.mem_cons.1 this with e2 | e2
          · exact e (congrArg (·.1) e2).symm
          · exact bts_irrefl _ (bts_trans hl2 (a1 _ e2))
    have hv : x.2 = y.2 := by
      have h3 := h x.1
      simp only [lk] at h3
      rw [if_pos hxy.symm] at h3
      simpa using h3
    have hx : x = y := Prod.ext hxy hv
    subst hx
    have : r1 = r2 := Srt.ext a2 b2 (fun s => by
      by_cases e : x.1 = s
      · rw [lk_none (fun z hz => by rw [← e]; exact (bts_ne (a1 z hz)).symm), lk_none (fun z hz => by rw [← e]; exact (bts_ne (b1 z hz)).symm)]
      · have h3 := h s
        simp only [lk] at h3
        rwa [if_neg e, if_neg e] at h3)
    rw [this]
theorem len_putL {l : List Nd} (h : Srt l) (x : Nd) : (putL l x).length = if (lk l x.1).isSome then l.length else l.length + 1 := by
  induction l with
  | nil => rfl
  | cons y r ih =>
    obtain ⟨h1, h2⟩ := List.pairwise_cons.1 h
    unfold putL
    split
    · rename_i hx
      have : lk (y :: r) x.1 = none := lk_none (fun z hz => by
        rcases List.mem_cons.1 hz with rfl | hz
        · exact (bts_ne hx).symm
        · exact (bts_ne (bts_trans hx (h1 z hz))).symm)
      rw [this]
      simp
    · split
      · rename_i he
        simp [lk, he]
      · rename_i he
        have e : lk (y :: r) x.1 = lk r x.1 := by simp only [lk]; rw [if_neg he]
        rw [e, List.length_cons, ih h2, List.length_cons]
        split <;> rfl
/-- The numbers at a name. -/
def ofL (l : List Nd) (s : ByteArray) : Int × Int := (lk l s).getD (0, 0)
/-- One node of the second list merged. -/
def mrg (a : List Nd) (out : List Nd) (x : Nd) : List Nd := putL out (x.1, max (ofL a x.1).1 x.2.1, max (ofL a x.1).2 x.2.2)
def mergeL (a b : List Nd) : List Nd := b.foldl (mrg a) a
theorem fold_srt (a : List Nd) : ∀ (b out : List Nd), Srt out → Srt (b.foldl (mrg a) out)
  | [], _, h => h
  | x :: b, out, h => fold_srt a b _ (h.put _)
theorem fold_lk (a : List Nd) : ∀ (b out : List Nd), Srt b → ∀ s, lk (b.foldl (mrg a) out) s = match lk b s with | some v => some (max (ofL a s).1 v.1, max (ofL a s).2 v.2) | none => lk out s
  | [], out, _, s => rfl
  | x :: b, out, h, s => by
    obtain ⟨h1, h2⟩ := List.pairwise_cons.1 h
    show lk (b.foldl (mrg a) (mrg a out x)) s = _
    rw [fold_lk a b (mrg a out x) h2 s]
    by_cases e : x.1 = s
    · subst e
      have : lk b x.1 = none := lk_none (fun z hz => (bts_ne (h1 z hz)).symm)
      rw [this]
      simp only [lk]
      unfold mrg
      rw [lk_putL]
      simp
    · simp only [lk]
      rw [if_neg e]
      cases lk b s with
      | some v => rfl
      | none =>
        unfold mrg
        rw [lk_putL]
        simp [Ne.symm e]
theorem mergeL_srt {a b : List Nd} (h : Srt a) : Srt (mergeL a b) := fold_srt a b a h
theorem mergeL_lk {a b : List Nd} (h : Srt b) (s : ByteArray) : lk (mergeL a b) s = match lk b s with | some v => some (max (ofL a s).1 v.1, max (ofL a s).2 v.2) | none => lk a s := fold_lk a b a h s
end Go.Proofs.Ytanbfejhhnhabaa
