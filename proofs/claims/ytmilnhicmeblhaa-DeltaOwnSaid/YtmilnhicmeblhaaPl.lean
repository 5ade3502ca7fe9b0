/- The package delta: lists by rising keys, plain: look-ups; two lists side by side; a list that a rule makes key by key. -/
import Derived.Test.YtmilnhicmeblhaaPp
namespace Go.Proofs.Ytmilnhicmeblhaa
open Go.RowKit Go.Sort
set_option linter.unusedVariables false
set_option linter.unusedSimpArgs false
/-- What a list has at a key. -/
def lk {β : Type} : List (ByteArray × β) → ByteArray → Option β
  | [], _ => none
  | x :: r, s => if x.1 = s then some x.2 else lk r s
abbrev Srt {β : Type} (l : List (ByteArray × β)) : Prop := l.Pairwise (fun a b => bts a.1 < bts b.1)
theorem lk_none {β : Type} {l : List (ByteArray × β)} {s : ByteArray} (h : ∀ x ∈ l, x.1 ≠ s) : lk l s = none := by
  induction l with
  | nil => rfl
  | cons x r ih => rw [lk, if_neg (h x List.mem_cons_self)]; exact ih (fun y hy => h y (List.mem_cons_of_mem _ hy))
theorem lk_mem {β : Type} {l : List (ByteArray × β)} {s : ByteArray} {v : β} (h : lk l s = some v) : (s, v) ∈ l := by
  induction l with
  | nil => cases h
  | cons x r ih =>
    rw [lk] at h
    split at h
    · rename_i hx
      cases h
      subst hx
      exact List.mem_cons_self
    · exact List.mem_cons_of_mem _ (ih h)
theorem lk_of {β : Type} {l : List (ByteArray × β)} (hs : Srt l) {x : ByteArray × β} (h : x ∈ l) : lk l x.1 = some x.2 := by
  induction l with
  | nil => cases h
  | cons y r ih =>
    have hp := List.pairwise_cons.1 hs
    rcases List.mem_cons.1 h with rfl | h
    · rw [lk, if_pos rfl]
    · rw [lk, if_neg (bts_ne (hp.1 x h))]
      exact ih hp.2 h
theorem lk_lt {β : Type} {l : List (ByteArray × β)} {s : ByteArray} (h : ∀ x ∈ l, bts s < bts x.1) : lk l s = none :=
  lk_none (fun x hx => (bts_ne (h x hx)).symm)
/-- Two lists that have the same at every key are one. -/
theorem Srt.ext {β : Type} : ∀ {a b : List (ByteArray × β)}, Srt a → Srt b → (∀ s, lk a s = lk b s) → a = b
  | [], [], _, _, _ => rfl
  | [], y :: s, _, _, h => by have := h y.1; rw [lk, lk, if_pos rfl] at this; cases this
  | x :: r, [], _, _, h => by have := h x.1; rw [lk, lk, if_pos rfl] at this; cases this
  | x :: r, y :: s, ha, hb, h => by
    have pa := List.pairwise_cons.1 ha
    have pb := List.pairwise_cons.1 hb
    have hxy : x.1 = y.1 := by
      by_cases e : x.1 = y.1
      · exact e
      · by_cases l : bts x.1 < bts y.1
        · have := h x.1
          rw [lk, if_pos rfl, lk, if_neg (Ne.symm e), lk_lt (fun z hz => bts_trans l (pb.1 z hz))] at this
          cases this
        · have l2 := bts_lt_of l e
          have := h y.1
          rw [lk, if_neg e, lk_lt (fun z hz => bts_trans l2 (pa.1 z hz)), lk, if_pos rfl] at this
          cases this
    have hv : x.2 = y.2 := by
      have := h x.1
      rw [lk, if_pos rfl, lk, if_pos hxy.symm] at this
      exact Option.some.inj this
    have hrs : r = s := Srt.ext pa.2 pb.2 (fun t => by
      by_cases e : x.1 = t
      · subst e
        rw [lk_lt pa.1, hxy, lk_lt pb.1]
      · have := h t
        rwa [lk, if_neg e, lk, if_neg (hxy ▸ e)] at this)
    rw [hrs]
    congr 1
    exact Prod.ext hxy hv
/-- Two lists side by side: a key, and what each has of it. -/
def zipR {α β : Type} : List (ByteArray × α) → List (ByteArray × β) → List (ByteArray × Option α × Option β)
  | [], [] => []
  | x :: r, [] => (x.1, some x.2, none) :: zipR r []
  | [], y :: s => (y.1, none, some y.2) :: zipR [] s
  | x :: r, y :: s =>
    if x.1 = y.1 then (x.1, some x.2, some y.2) :: zipR r s
    else if bts x.1 < bts y.1 then (x.1, some x.2, none) :: zipR r (y :: s)
    else (y.1, none, some y.2) :: zipR (x :: r) s
termination_by a b => a.length + b.length
/-- What stands at the places. -/
def valV {α β : Type} (A : List (ByteArray × α)) (B : List (ByteArray × β)) (x : It) : ByteArray × Option α × Option β := (x.1, x.2.1.bind (fun i => (A[i]?).map (·.2)), x.2.2.bind (fun i => (B[i]?).map (·.2)))
theorem zipP_vals {α β : Type} (A : List (ByteArray × α)) (B : List (ByteArray × β)) : ∀ (n i k : Nat), A.length - i + (B.length - k) ≤ n → (zipP ((A.map (·.1)).drop i) ((B.map (·.1)).drop k) i k).map (valV A B) = zipR (A.drop i) (B.drop k) := by
  intro n
  induction n with
  | zero =>
    intro i k h
    rw [zipP_nil (by simp; omega) (by simp; omega), drop_end (by omega), drop_end (by omega)]
    simp [zipR]
  | succ n ih =>
    intro i k h
    by_cases hi : i < A.length
    · obtain ⟨x, hx⟩ : ∃ x, A[i]? = some x := ⟨_, List.getElem?_eq_getElem hi⟩
      have hxm : (A.map (·.1))[i]? = some x.1 := by rw [List.getElem?_map, hx]; rfl
      by_cases hk : k < B.length
      · obtain ⟨y, hy⟩ : ∃ y, B[k]? = some y := ⟨_, List.getElem?_eq_getElem hk⟩
        have hym : (B.map (·.1))[k]? = some y.1 := by rw [List.getElem?_map, hy]; rfl
        by_cases e : x.1 = y.1
        · rw [zipP_eq hxm (by rw [hym, e]), List.map_cons, ih (i + 1) (k + 1) (by omega), drop_at hx, drop_at hy]
          conv => rhs; unfold zipR
          rw [if_pos e]
          simp [valV, hx, hy]
        · by_cases l : bts x.1 < bts y.1
          · rw [zipP_lt hxm hym l, List.map_cons, ih (i + 1) k (by omega), drop_at hx, drop_at hy]
            conv => rhs; unfold zipR
            rw [if_neg e, if_pos l]
            simp [valV, hx]
          · rw [zipP_gt hxm hym (bts_lt_of l e), List.map_cons, ih i (k + 1) (by omega), drop_at hx, drop_at hy]
            conv => rhs; unfold zipR
            rw [if_neg e, if_neg l]
            simp [valV, hy]
      · rw [zipP_a hxm (by simp; omega), List.map_cons, ih (i + 1) k (by omega), drop_at hx, drop_end (l := B) (by omega)]
        simp only [zipR]
        simp [valV, hx]
    · by_cases hk : k < B.length
      · obtain ⟨y, hy⟩ : ∃ y, B[k]? = some y := ⟨_, List.getElem?_eq_getElem hk⟩
        have hym : (B.map (·.1))[k]? = some y.1 := by rw [List.getElem?_map, hy]; rfl
        rw [zipP_b (by simp; omega) hym, List.map_cons, ih i (k + 1) (by omega), drop_at hy, drop_end (l := A) (by omega)]
        simp only [zipR]
        simp [valV, hy]
      · rw [zipP_nil (by simp; omega) (by simp; omega), drop_end (by omega), drop_end (by omega)]
        simp [zipR]
theorem zipP_val {α β : Type} (A : List (ByteArray × α)) (B : List (ByteArray × β)) : (zipP (A.map (·.1)) (B.map (·.1)) 0 0).map (valV A B) = zipR A B := zipP_vals A B _ 0 0 (Nat.le_refl _)
theorem zipR_mem {α β : Type} : ∀ {a : List (ByteArray × α)} {b : List (ByteArray × β)} {z : ByteArray × Option α × Option β}, z ∈ zipR a b → (∃ x ∈ a, x.1 = z.1) ∨ (∃ y ∈ b, y.1 = z.1)
  | [], [], z, h => by simp [zipR] at h
  | x :: r, [], z, h => by
    simp only [zipR, List.mem_cons] at h
    rcases h with rfl | h
    · exact .inl ⟨x, List.mem_cons_self, rfl⟩
    · rcases zipR_mem h with ⟨q, hq, e⟩ | ⟨q, hq, e⟩
      · exact .inl ⟨q, List.mem_cons_of_mem _ hq, e⟩
      · cases hq
  | [], y :: s, z, h => by
    simp only [zipR, List.mem_cons] at h
    rcases h with rfl | h
    · exact .inr ⟨y, List.mem_cons_self, rfl⟩
    · rcases zipR_mem h with ⟨q, hq, e⟩ | ⟨q, hq, e⟩
      · cases hq
      · exact .inr ⟨q, List.mem_cons_of_mem _ hq, e⟩
  | x :: r, y :: s, z, h => by
    unfold zipR at h
    split at h
    · rcases List.mem_cons.1 h with rfl | h
      · exact .inl ⟨x, List.mem_cons_self, rfl⟩
      · rcases zipR_mem h with ⟨q, hq, e⟩ | ⟨q, hq, e⟩
        · exact .inl ⟨q, List.mem_cons_of_mem _ hq, e⟩
        · exact .inr ⟨q, List.mem_cons_of_mem _ hq, e⟩
    · split at h
      · rcases List.mem_cons.1 h with rfl | h
        · exact .inl ⟨x, List.mem_cons_self, rfl⟩
        · rcases zipR_mem h with ⟨q, hq, e⟩ | ⟨q, hq, e⟩
          · exact .inl ⟨q, List.mem_cons_of_mem _ hq, e⟩
          · exact .inr ⟨q, hq, e⟩
      · rcases List.mem_cons.1 h with rfl | h
        · exact .inr ⟨y, List.mem_cons_self, rfl⟩
        · rcases zipR_mem h with ⟨q, hq, e⟩ | ⟨q, hq, e⟩
          · exact .inl ⟨q, hq, e⟩
          · exact .inr ⟨q, List.mem_cons_of_mem _ hq, e⟩
termination_by a b => a.length + b.length
theorem zipR_some {α β : Type} : ∀ {a : List (ByteArray × α)} {b : List (ByteArray × β)} {z : ByteArray × Option α × Option β}, z ∈ zipR a b → z.2.1.isSome = true ∨ z.2.2.isSome = true
  | [], [], z, h => by simp [zipR] at h
  | x :: r, [], z, h => by
    simp only [zipR, List.mem_cons] at h
    rcases h with rfl | h
    · exact .inl rfl
    · exact zipR_some h
  | [], y :: s, z, h => by
    simp only [zipR, List.mem_cons] at h
    rcases h with rfl | h
    · exact .inr rfl
    · exact zipR_some h
  | x :: r, y :: s, z, h => by
    unfold zipR at h
    split at h
    · rcases List.mem_cons.1 h with rfl | h
      · exact .inl rfl
      · exact zipR_some h
    · split at h
      · rcases List.mem_cons.1 h with rfl | h
        · exact .inl rfl
        · exact zipR_some h
      · rcases List.mem_cons.1 h with rfl | h
        · exact .inr rfl
        · exact zipR_some h
termination_by a b => a.length + b.length
/-- A list that a rule makes of two, key by key. -/
def rule {α β γ : Type} (f : ByteArray → Option α → Option β → Option γ) (z : ByteArray × Option α × Option β) : Option (ByteArray × γ) := (f z.1 z.2.1 z.2.2).map (fun c => (z.1, c))
def made {α β γ : Type} (f : ByteArray → Option α → Option β → Option γ) (a : List (ByteArray × α)) (b : List (ByteArray × β)) : List (ByteArray × γ) := (zipR a b).filterMap (rule f)
theorem made_key {α β γ : Type} {f : ByteArray → Option α → Option β → Option γ} {a : List (ByteArray × α)} {b : List (ByteArray × β)} {c : ByteArray × γ} (h : c ∈ made f a b) : (∃ x ∈ a, x.1 = c.1) ∨ (∃ y ∈ b, y.1 = c.1) := by
  unfold made at h
  obtain ⟨z, hz, e⟩ := List.mem_filterMap.1 h
  have : c.1 = z.1 := by
    unfold rule at e
    rcases hf : f z.1 z.2.1 z.2.2 with _ | u
    · rw [hf] at e; cases e
    · rw [hf] at e; cases e; rfl
  rw [this]
  exact zipR_mem hz
theorem made_lt {α β γ : Type} {f : ByteArray → Option α → Option β → Option γ} {a : List (ByteArray × α)} {b : List (ByteArray × β)} {s : ByteArray} (ha : ∀ x ∈ a, bts s < bts x.1) (hb : ∀ x ∈ b, bts s < bts x.1) : ∀ c ∈ made f a b, bts s < bts c.1 := by
  intro c hc
  rcases made_key hc with ⟨x, hx, e⟩ | ⟨x, hx, e⟩
  · rw [← e]; exact ha x hx
  · rw [← e]; exact hb x hx
theorem made_step {α β γ : Type} (f : ByteArray → Option α → Option β → Option γ) (z : ByteArray × Option α × Option β) (l : List (ByteArray × Option α × Option β)) : (z :: l).filterMap (rule f) = (match f z.1 z.2.1 z.2.2 with | some c => [(z.1, c)] | none => []) ++ l.filterMap (rule f) := by
  rw [List.filterMap_cons]
  unfold rule
  cases f z.1 z.2.1 z.2.2 <;> rfl
theorem srt_step {γ : Type} {s : ByteArray} {o : Option γ} {l : List (ByteArray × γ)} (hl : Srt l) (h : ∀ c ∈ l, bts s < bts c.1) : Srt ((match o with | some c => [(s, c)] | none => []) ++ l) := by
  cases o with
  | none => exact hl
  | some c => exact List.pairwise_cons.2 ⟨fun x hx => h x hx, hl⟩
theorem lk_step {γ : Type} {s : ByteArray} {o : Option γ} {l : List (ByteArray × γ)} (h : ∀ c ∈ l, bts s < bts c.1) (t : ByteArray) : lk ((match o with | some c => [(s, c)] | none => []) ++ l) t = if s = t then o else lk l t := by
  cases o with
  | none =>
    show lk l t = _
    split
    · rename_i e; subst e; exact lk_lt h
    · rfl
  | some c => rfl
/-- It is in order, and has at each key what the rule says. -/
theorem made_srt {α β γ : Type} (f : ByteArray → Option α → Option β → Option γ) (hf : ∀ k, f k none none = none) : ∀ (a : List (ByteArray × α)) (b : List (ByteArray × β)), Srt a → Srt b → Srt (made f a b) ∧ ∀ s, lk (made f a b) s = f s (lk a s) (lk b s)
  | [], [], _, _ => ⟨by simp [made, zipR], fun s => by simp [made, zipR, lk, hf]⟩
  | x :: r, [], ha, hb => by
    have pa := List.pairwise_cons.1 ha
    obtain ⟨i1, i2⟩ := made_srt f hf r [] pa.2 hb
    have hlt := made_lt (f := f) (b := ([] : List (ByteArray × β))) pa.1 (by simp)
    have e : made f (x :: r) [] = (match f x.1 (some x.2) none with | some c => [(x.1, c)] | none => []) ++ made f r [] := by
      simp only [made, zipR]; exact made_step f _ _
    rw [e]
    refine ⟨srt_step i1 hlt, fun s => ?_⟩
    rw [lk_step hlt]
    by_cases h : x.1 = s
    · subst h; simp [lk]
    · rw [if_neg h, i2]; simp [lk, h]
  | [], y :: r, ha, hb => by
    have pb := List.pairwise_cons.1 hb
    obtain ⟨i1, i2⟩ := made_srt f hf [] r ha pb.2
    have hlt := made_lt (f := f) (a := ([] : List (ByteArray × α))) (by simp) pb.1
    have e : made f [] (y :: r) = (match f y.1 none (some y.2) with | some c => [(y.1, c)] | none => []) ++ made f [] r := by
      simp only [made, zipR]; exact made_step f _ _
    rw [e]
    refine ⟨srt_step i1 hlt, fun s => ?_⟩
    rw [lk_step hlt]
    by_cases h : y.1 = s
    · subst h; simp [lk]
    · rw [if_neg h, i2]; simp [lk, h]
  | x :: r, y :: s, ha, hb => by
    have pa := List.pairwise_cons.1 ha
    have pb := List.pairwise_cons.1 hb
    by_cases e : x.1 = y.1
    · obtain ⟨i1, i2⟩ := made_srt f hf r s pa.2 pb.2
      have hlt := made_lt (f := f) pa.1 (by rw [e]; exact pb.1)
      have e2 : made f (x :: r) (y :: s) = (match f x.1 (some x.2) (some y.2) with | some c => [(x.1, c)] | none => []) ++ made f r s := by
        unfold made
        conv => lhs; unfold zipR
        rw [if_pos e]; exact made_step f _ _
      rw [e2]
      refine ⟨srt_step i1 hlt, fun t => ?_⟩
      rw [lk_step hlt]
      by_cases h : x.1 = t
      · subst h; simp [lk, e.symm]
      · have h2 : ¬ y.1 = t := by rw [← e]; exact h
        rw [if_neg h, i2]; simp [lk, h, h2]
    · by_cases l : bts x.1 < bts y.1
      · obtain ⟨i1, i2⟩ := made_srt f hf r (y :: s) pa.2 hb
        have hy : ∀ z ∈ y :: s, bts x.1 < bts z.1 := by
          intro z hz
          rcases List.mem_cons.1 hz with rfl | hz
          · exact l
          · exact bts_trans l (pb.1 z hz)
        have hlt := made_lt (f := f) pa.1 hy
        have e2 : made f (x :: r) (y :: s) = (match f x.1 (some x.2) none with | some c => [(x.1, c)] | none => []) ++ made f r (y :: s) := by
          unfold made
          conv => lhs; unfold zipR
          rw [if_neg e, if_pos l]; exact made_step f _ _
        rw [e2]
        refine ⟨srt_step i1 hlt, fun t => ?_⟩
        rw [lk_step hlt]
        by_cases h : x.1 = t
        · subst h
          rw [if_pos rfl, lk_lt hy]; simp [lk]
        · rw [if_neg h, i2]
          have : lk (x :: r) t = lk r t := by rw [lk, if_neg h]
          rw [this]
      · have l2 := bts_lt_of l e
        obtain ⟨i1, i2⟩ := made_srt f hf (x :: r) s ha pb.2
        have hx : ∀ z ∈ x :: r, bts y.1 < bts z.1 := by
          intro z hz
          rcases List.mem_cons.1 hz with rfl | hz
          · exact l2
          · exact bts_trans l2 (pa.1 z hz)
        have hlt := made_lt (f := f) hx pb.1
        have e2 : made f (x :: r) (y :: s) = (match f y.1 none (some y.2) with | some c => [(y.1, c)] | none => []) ++ made f (x :: r) s := by
          unfold made
          conv => lhs; unfold zipR
          rw [if_neg e, if_neg l]; exact made_step f _ _
        rw [e2]
        refine ⟨srt_step i1 hlt, fun t => ?_⟩
        rw [lk_step hlt]
        by_cases h : y.1 = t
        · subst h
          rw [if_pos rfl, lk_lt hx]; simp [lk]
        · rw [if_neg h, i2]
          have : lk (y :: s) t = lk s t := by rw [lk, if_neg h]
          rw [this]
termination_by a b => a.length + b.length
theorem zipR_len {α β : Type} : ∀ (a : List (ByteArray × α)) (b : List (ByteArray × β)), (zipR a b).length ≤ a.length + b.length := by
  intro a b
  rw [← zipP_val, List.length_map]
  have := zipP_len (a.map (·.1)) (b.map (·.1)) 0 0
  simpa using this
theorem made_len {α β γ : Type} (f : ByteArray → Option α → Option β → Option γ) (a : List (ByteArray × α)) (b : List (ByteArray × β)) : (made f a b).length ≤ a.length + b.length :=
  Nat.le_trans (List.length_filterMap_le _ _) (zipR_len a b)
end Go.Proofs.Ytmilnhicmeblhaa
