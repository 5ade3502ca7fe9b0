/- The package delta, plain: what Diff, Apply, Add and Join answer; that it is right. -/
import Derived.Test.YtmilnhicmeblhaaPl
import Derived.Test.YtmilnhicmeblhaaRh
import Derived.Laws.Bits64
namespace Go.Proofs.Ytmilnhicmeblhaa
open Go.RowKit Go.Sort
set_option linter.unusedVariables false
set_option linter.unusedSimpArgs false
/-- A change without its key: by how much, reset, gone. -/
abbrev Cv := Int × Bool × Bool
def diffF (_ : ByteArray) : Option Int → Option Int → Option Cv
  | none, none => none
  | some _, none => some (0, false, true)
  | none, some n => some (n, n == 0, false)
  | some a, some b => if b < a then some (b, true, false) else if b = a then none else some (b - a, false, false)
def turnF (adds : Bool) (_ : ByteArray) : Option Int → Option Cv → Option Int
  | a, none => a
  | a, some (n, r, g) => if g = true then (if adds = true then a else none) else if r = true ∧ adds = false then some n else some (IntKind.u64.wrap (a.getD 0 + n))
def joinF (_ : ByteArray) : Option Cv → Option Cv → Option Cv
  | a, none => a
  | none, some b => some b
  | some a, some b => if b.2.2 = true ∨ b.2.1 = true then some b else if a.2.2 = true then some (b.1, true, false)
    else if IntKind.u64.wrap (a.1 + b.1) = 0 ∧ a.2.1 = false then none else some (IntKind.u64.wrap (a.1 + b.1), a.2.1, false)
theorem diffF_none (k : ByteArray) : diffF k none none = none := rfl
theorem turnF_none (s : Bool) (k : ByteArray) : turnF s k none none = none := rfl
theorem joinF_none (k : ByteArray) : joinF k none none = none := rfl
/-- Is a key gone that was not there? -/
def badZ (z : ByteArray × Option Int × Option Cv) : Bool := match z.2.1, z.2.2 with | none, some (_, _, g) => g | _, _ => false
def cutE {β : Type} (l : List β) : List β × Int := if l.length ≤ 4096 then (l, 0) else ([], 3)
def diffE (a b : List Ct) : List Ch × Int := if rightC a = true ∧ rightC b = true then cutE (made diffF a b) else ([], 240)
def turnE (adds : Bool) (a : List Ct) (l : List Ch) : List Ct × Int :=
  if rightC a = true ∧ rightH l = true then (if adds = false ∧ (zipR a l).any badZ = true then ([], 240) else cutE (made (turnF adds) a l)) else ([], 240)
def joinE (a b : List Ch) : List Ch × Int := if rightH a = true ∧ rightH b = true then cutE (made joinF a b) else ([], 240)
theorem cutE_ok {β : Type} {l : List β} (h : (cutE l).2 = 0) : l.length ≤ 4096 ∧ cutE l = (l, 0) := by
  unfold cutE at *
  split at h
  · rename_i h1; exact ⟨h1, by rw [if_pos h1]⟩
  · cases h
theorem cutE_no {β : Type} {l : List β} (h : (cutE l).2 ≠ 0) : cutE l = ([], 3) := by
  unfold cutE at *
  split at h
  · exact absurd rfl h
  · rename_i h1; rw [if_neg h1]
theorem cutE_le {β : Type} (l : List β) : (cutE l).1.length ≤ 4096 := by
  unfold cutE
  split
  · assumption
  · simp
/-! What is right is in order. -/
theorem bless {a b : ByteArray} : Op.bytesLess a.toList b.toList = true ↔ bts a < bts b := by rw [bytesLess_lt]; simp
theorem okKs_srt : ∀ {p : Option ByteArray} {l : List ByteArray}, okKs p l = true → (∀ s, s ∈ l → keyF s = true) ∧ (∀ q, p = some q → ∀ s, s ∈ l → bts q < bts s) ∧ l.Pairwise (fun a b => bts a < bts b)
  | p, [], _ => ⟨by simp, by simp, List.Pairwise.nil⟩
  | p, x :: r, h => by
    rw [okKs, Bool.and_eq_true] at h
    obtain ⟨h1, h2⟩ := h
    obtain ⟨i1, i2, i3⟩ := okKs_srt h2
    unfold okP at h1
    rw [Bool.and_eq_true] at h1
    refine ⟨?_, ?_, List.pairwise_cons.2 ⟨fun y hy => i2 x rfl y hy, i3⟩⟩
    · intro s hs
      rcases List.mem_cons.1 hs with rfl | hs
      · exact h1.1
      · exact i1 s hs
    · rintro q rfl s hs
      have hq : bts q < bts x := bless.1 h1.2
      rcases List.mem_cons.1 hs with rfl | hs
      · exact hq
      · exact bts_trans hq (i2 x rfl s hs)
theorem srt_okKs : ∀ {p : Option ByteArray} {l : List ByteArray}, (∀ s, s ∈ l → keyF s = true) → (∀ q, p = some q → ∀ s, s ∈ l → bts q < bts s) → l.Pairwise (fun a b => bts a < bts b) → okKs p l = true
  | p, [], _, _, _ => rfl
  | p, x :: r, h1, h2, h3 => by
    have hp := List.pairwise_cons.1 h3
    rw [okKs, Bool.and_eq_true]
    refine ⟨?_, srt_okKs (fun s hs => h1 s (List.mem_cons_of_mem _ hs)) (fun q hq s hs => by cases hq; exact hp.1 s hs) hp.2⟩
    unfold okP
    rw [Bool.and_eq_true]
    refine ⟨h1 x List.mem_cons_self, ?_⟩
    cases p with
    | none => rfl
    | some q => exact bless.2 (h2 q rfl x List.mem_cons_self)
theorem pw_map {β : Type} {l : List (ByteArray × β)} : (l.map (·.1)).Pairwise (fun a b => bts a < bts b) ↔ Srt l := List.pairwise_map
theorem rightC_iff {l : List Ct} : rightC l = true ↔ (∀ x ∈ l, keyF x.1 = true) ∧ Srt l ∧ l.length ≤ 4096 := by
  unfold rightC
  rw [Bool.and_eq_true, decide_eq_true_iff]
  constructor
  · rintro ⟨h, hl⟩
    obtain ⟨h1, _, h3⟩ := okKs_srt h
    exact ⟨fun x hx => h1 _ (List.mem_map.2 ⟨x, hx, rfl⟩), pw_map.1 h3, hl⟩
  · rintro ⟨h1, h3, hl⟩
    refine ⟨srt_okKs (fun s hs => ?_) (by simp) (pw_map.2 h3), hl⟩
    obtain ⟨x, hx, rfl⟩ := List.mem_map.1 hs
    exact h1 x hx
theorem rightH_iff {l : List Ch} : rightH l = true ↔ (∀ x ∈ l, keyF x.1 = true) ∧ Srt l ∧ (∀ x ∈ l, shF x = true) ∧ l.length ≤ 4096 := by
  unfold rightH
  rw [Bool.and_eq_true, Bool.and_eq_true, decide_eq_true_iff, List.all_eq_true]
  constructor
  · rintro ⟨⟨h, hs⟩, hl⟩
    obtain ⟨h1, _, h3⟩ := okKs_srt h
    exact ⟨fun x hx => h1 _ (List.mem_map.2 ⟨x, hx, rfl⟩), pw_map.1 h3, hs, hl⟩
  · rintro ⟨h1, h3, hs, hl⟩
    refine ⟨⟨srt_okKs (fun s hs => ?_) (by simp) (pw_map.2 h3), hs⟩, hl⟩
    obtain ⟨x, hx, rfl⟩ := List.mem_map.1 hs
    exact h1 x hx
/-- Numbers are words. -/
def inW (n : Int) : Prop := 0 ≤ n ∧ n < 18446744073709551616
def WC (l : List Ct) : Prop := ∀ x ∈ l, inW x.2
def WH (l : List Ch) : Prop := ∀ x ∈ l, inW x.2.1
theorem WC.lk {l : List Ct} (h : WC l) {s : ByteArray} {n : Int} (e : lk l s = some n) : inW n := h _ (lk_mem e)
theorem WH.lk {l : List Ch} (h : WH l) {s : ByteArray} {n : Cv} (e : lk l s = some n) : inW n.1 := h _ (lk_mem e)
theorem wrap_in (n : Int) : inW (IntKind.u64.wrap n) := by
  rw [IntKind.wrap_u64]; unfold inW; omega
theorem diffF_in {k : ByteArray} {a b : Option Int} {c : Cv} (ha : ∀ n, a = some n → inW n) (hb : ∀ n, b = some n → inW n) (h : diffF k a b = some c) : inW c.1 ∧ shF (k, c) = true := by
  unfold diffF at h
  split at h
  · cases h
  · cases h; exact ⟨by unfold inW; omega, rfl⟩
  · rename_i n
    cases h
    have := hb _ rfl
    refine ⟨this, ?_⟩
    simp [shF]
  · rename_i x y
    have h1 := ha _ rfl
    have h2 := hb _ rfl
    unfold inW at *
    split at h
    · cases h; exact ⟨h2, by simp [shF]⟩
    · split at h
      · cases h
      · cases h
        refine ⟨by simp only; omega, ?_⟩
        simp [shF]
        omega
theorem joinF_in {k : ByteArray} {a b : Option Cv} {c : Cv} (ha : ∀ n, a = some n → inW n.1 ∧ shF (k, n) = true) (hb : ∀ n, b = some n → inW n.1 ∧ shF (k, n) = true) (h : joinF k a b = some c) : inW c.1 ∧ shF (k, c) = true := by
  unfold joinF at h
  split at h
  · exact ha _ h
  · cases h; exact hb _ rfl
  · rename_i x y
    split at h
    · cases h; exact hb _ rfl
    · split at h
      · cases h
        exact ⟨(hb _ rfl).1, by simp [shF]⟩
      · split at h
        · cases h
        · rename_i h3
          cases h
          refine ⟨wrap_in _, ?_⟩
          simp only [shF]
          cases hx : x.2.1 with
          | true => simp
          | false => simp [hx] at h3; simp [h3]
theorem turnF_in {s : Bool} {k : ByteArray} {a : Option Int} {b : Option Cv} {c : Int} (ha : ∀ n, a = some n → inW n) (hb : ∀ n, b = some n → inW n.1) (h : turnF s k a b = some c) : inW c := by
  unfold turnF at h
  split at h
  · exact ha _ h
  · rename_i n r g
    split at h
    · split at h
      · exact ha _ h
      · cases h
    · split at h
      · cases h; exact hb _ rfl
      · cases h; exact wrap_in _
theorem made_val {α β γ : Type} {f : ByteArray → Option α → Option β → Option γ} (hf : ∀ k, f k none none = none) {a : List (ByteArray × α)} {b : List (ByteArray × β)} (ha : Srt a) (hb : Srt b) {c : ByteArray × γ} (h : c ∈ made f a b) : f c.1 (lk a c.1) (lk b c.1) = some c.2 := by
  obtain ⟨h1, h2⟩ := made_srt f hf a b ha hb
  rw [← h2]
  exact lk_of h1 h
theorem made_keys {α β γ : Type} {f : ByteArray → Option α → Option β → Option γ} {a : List (ByteArray × α)} {b : List (ByteArray × β)} (ha : ∀ x ∈ a, keyF x.1 = true) (hb : ∀ x ∈ b, keyF x.1 = true) : ∀ c ∈ made f a b, keyF c.1 = true := by
  intro c hc
  rcases made_key hc with ⟨x, hx, e⟩ | ⟨x, hx, e⟩
  · rw [← e]; exact ha x hx
  · rw [← e]; exact hb x hx
theorem rightC_nil : rightC [] = true := rfl
theorem rightH_nil : rightH [] = true := rfl
theorem diff_right {a b : List Ct} (ha : rightC a = true) (hb : rightC b = true) (wa : WC a) (wb : WC b) : (∀ x ∈ made diffF a b, keyF x.1 = true) ∧ Srt (made diffF a b) ∧ (∀ x ∈ made diffF a b, shF x = true) ∧ WH (made diffF a b) := by
  obtain ⟨a1, a2, a3⟩ := rightC_iff.1 ha
  obtain ⟨b1, b2, b3⟩ := rightC_iff.1 hb
  refine ⟨made_keys a1 b1, (made_srt _ diffF_none _ _ a2 b2).1, fun x hx => ?_, fun x hx => ?_⟩
  · have := made_val diffF_none a2 b2 hx
    exact (diffF_in (fun n e => wa.lk e) (fun n e => wb.lk e) this).2
  · have := made_val diffF_none a2 b2 hx
    exact (diffF_in (fun n e => wa.lk e) (fun n e => wb.lk e) this).1
theorem diffE_right {a b : List Ct} (wa : WC a) (wb : WC b) : rightH (diffE a b).1 = true ∧ WH (diffE a b).1 := by
  unfold diffE
  split
  · rename_i h
    obtain ⟨k1, k2, k3, k4⟩ := diff_right h.1 h.2 wa wb
    unfold cutE
    split
    · rename_i hl
      exact ⟨rightH_iff.2 ⟨k1, k2, k3, hl⟩, k4⟩
    · exact ⟨rfl, by intro x hx; cases hx⟩
  · exact ⟨rfl, by intro x hx; cases hx⟩
theorem turnE_right {s : Bool} {a : List Ct} {l : List Ch} (wa : WC a) (wl : WH l) : rightC (turnE s a l).1 = true ∧ WC (turnE s a l).1 := by
  unfold turnE
  split
  · rename_i h
    obtain ⟨a1, a2, a3⟩ := rightC_iff.1 h.1
    obtain ⟨b1, b2, b3, b4⟩ := rightH_iff.1 h.2
    split
    · exact ⟨rfl, by intro x hx; cases hx⟩
    · unfold cutE
      split
      · rename_i hl
        refine ⟨rightC_iff.2 ⟨made_keys a1 b1, (made_srt _ (turnF_none s) _ _ a2 b2).1, hl⟩, fun x hx => ?_⟩
        have := made_val (turnF_none s) a2 b2 hx
        exact turnF_in (fun n e => wa.lk e) (fun n e => wl.lk e) this
      · exact ⟨rfl, by intro x hx; cases hx⟩
  · exact ⟨rfl, by intro x hx; cases hx⟩
theorem joinE_right {a b : List Ch} (wa : WH a) (wb : WH b) : rightH (joinE a b).1 = true ∧ WH (joinE a b).1 := by
  unfold joinE
  split
  · rename_i h
    obtain ⟨a1, a2, a3, a4⟩ := rightH_iff.1 h.1
    obtain ⟨b1, b2, b3, b4⟩ := rightH_iff.1 h.2
    have sh : ∀ x ∈ made joinF a b, inW x.2.1 ∧ shF x = true := fun x hx =>
      joinF_in (fun n e => ⟨wa.lk e, a3 _ (lk_mem e)⟩) (fun n e => ⟨wb.lk e, b3 _ (lk_mem e)⟩) (made_val joinF_none a2 b2 hx)
    unfold cutE
    split
    · rename_i hl
      exact ⟨rightH_iff.2 ⟨made_keys a1 b1, (made_srt _ joinF_none _ _ a2 b2).1, fun x hx => (sh x hx).2, hl⟩, fun x hx => (sh x hx).1⟩
    · exact ⟨rfl, by intro x hx; cases hx⟩
  · exact ⟨rfl, by intro x hx; cases hx⟩
theorem diffE_ok {a b : List Ct} (h : (diffE a b).2 = 0) : rightC a = true ∧ rightC b = true ∧ (diffE a b).1 = made diffF a b ∧ (made diffF a b).length ≤ 4096 := by
  unfold diffE at *
  split at h
  · rename_i h1
    obtain ⟨h2, h3⟩ := cutE_ok h
    rw [if_pos h1, h3]
    exact ⟨h1.1, h1.2, rfl, h2⟩
  · cases h
theorem turnE_ok {s : Bool} {a : List Ct} {b : List Ch} (h : (turnE s a b).2 = 0) : rightC a = true ∧ rightH b = true ∧ (turnE s a b).1 = made (turnF s) a b ∧ (made (turnF s) a b).length ≤ 4096 := by
  unfold turnE at *
  split at h
  · rename_i h1
    split at h
    · cases h
    · rename_i h4
      obtain ⟨h2, h3⟩ := cutE_ok h
      rw [if_pos h1, if_neg h4, h3]
      exact ⟨h1.1, h1.2, rfl, h2⟩
  · cases h
theorem joinE_ok {a b : List Ch} (h : (joinE a b).2 = 0) : rightH a = true ∧ rightH b = true ∧ (joinE a b).1 = made joinF a b ∧ (made joinF a b).length ≤ 4096 := by
  unfold joinE at *
  split at h
  · rename_i h1
    obtain ⟨h2, h3⟩ := cutE_ok h
    rw [if_pos h1, h3]
    exact ⟨h1.1, h1.2, rfl, h2⟩
  · cases h
theorem diffE_no {a b : List Ct} (h : (diffE a b).2 ≠ 0) : (diffE a b).1 = [] ∧ ((diffE a b).2 = 3 ∨ rightC a = false ∨ rightC b = false) := by
  unfold diffE at *
  split at h
  · rename_i h1
    rw [if_pos h1, cutE_no h]
    exact ⟨rfl, .inl rfl⟩
  · rename_i h1
    rw [if_neg h1]
    refine ⟨rfl, .inr ?_⟩
    cases ha : rightC a with
    | false => exact .inl rfl
    | true =>
      cases hb : rightC b with
      | false => exact .inr rfl
      | true => exact absurd ⟨ha, hb⟩ h1
theorem joinE_no {a b : List Ch} (h : (joinE a b).2 ≠ 0) : (joinE a b).1 = [] ∧ ((joinE a b).2 = 3 ∨ rightH a = false ∨ rightH b = false) := by
  unfold joinE at *
  split at h
  · rename_i h1
    rw [if_pos h1, cutE_no h]
    exact ⟨rfl, .inl rfl⟩
  · rename_i h1
    rw [if_neg h1]
    refine ⟨rfl, .inr ?_⟩
    cases ha : rightH a with
    | false => exact .inl rfl
    | true =>
      cases hb : rightH b with
      | false => exact .inr rfl
      | true => exact absurd ⟨ha, hb⟩ h1
theorem turnE_no {s : Bool} {a : List Ct} {b : List Ch} (h : (turnE s a b).2 ≠ 0) : (turnE s a b).1 = [] ∧ (rightC a = true → rightH b = true → s = true → (turnE s a b).2 = 3) := by
  unfold turnE at *
  split at h
  · rename_i h1
    rw [if_pos h1]
    split at h
    · rename_i h4
      rw [if_pos h4]
      refine ⟨rfl, fun _ _ hs => ?_⟩
      rw [hs] at h4
      cases h4.1
    · rename_i h4
      rw [if_neg h4, cutE_no h]
      exact ⟨rfl, fun _ _ _ => rfl⟩
  · rename_i h1
    rw [if_neg h1]
    exact ⟨rfl, fun h2 h3 _ => absurd ⟨h2, h3⟩ h1⟩
/-! DeltaBack. -/
theorem zipR_val {α β : Type} {a : List (ByteArray × α)} {b : List (ByteArray × β)} (ha : Srt a) (hb : Srt b) : ∀ z ∈ zipR a b, z.2.1 = lk a z.1 ∧ z.2.2 = lk b z.1 := by
  intro z hz
  have h0 : (z.1, (z.2.1, z.2.2)) ∈ made (fun _ (x : Option α) (y : Option β) => if x.isNone && y.isNone then none else some (x, y)) a b ∨ (z.2.1 = none ∧ z.2.2 = none) := by
    by_cases hn : (z.2.1.isNone && z.2.2.isNone) = true
    · right
      simpa using hn
    · left
      refine List.mem_filterMap.2 ⟨z, hz, ?_⟩
      unfold rule
      simp only [hn]
      rfl
  rcases h0 with h0 | h0
  · have := made_val (f := fun _ (x : Option α) (y : Option β) => if x.isNone && y.isNone then none else some (x, y)) (fun _ => rfl) ha hb h0
    simp only at this
    split at this
    · cases this
    · simp only [Option.some.injEq, Prod.mk.injEq] at this
      exact ⟨this.1.symm, this.2.symm⟩
  · exfalso
    rcases zipR_some hz with h | h
    · rw [h0.1] at h; cases h
    · rw [h0.2] at h; cases h
/-- A key that is gone though it was not there: told by look-ups. -/
theorem bad_iff {a : List Ct} {l : List Ch} (ha : Srt a) (hl : Srt l) : (zipR a l).any badZ = true ↔ ∃ k n r, lk l k = some (n, r, true) ∧ lk a k = none := by
  rw [List.any_eq_true]
  constructor
  · rintro ⟨z, hz, hb⟩
    obtain ⟨e1, e2⟩ := zipR_val ha hl z hz
    unfold badZ at hb
    split at hb
    · rename_i n r g h1 h2
      subst hb
      exact ⟨z.1, n, r, by rw [← e2, h2], by rw [← e1, h1]⟩
    · cases hb
  · rintro ⟨k, n, r, h1, h2⟩
    have h3 := (made_srt (fun _ (x : Option Int) (y : Option Cv) => if x.isNone && y.isNone then none else some (x, y)) (fun _ => rfl) a l ha hl).2 k
    rw [h1, h2] at h3
    simp only [Option.isNone_none, Option.isNone_some, Bool.and_false, Bool.false_eq_true, if_false] at h3
    obtain ⟨z, hz, e⟩ := List.mem_filterMap.1 (lk_mem h3)
    refine ⟨z, hz, ?_⟩
    unfold rule at e
    dsimp only at e
    split at e
    · cases e
    · simp only [Option.map_some, Option.some.injEq, Prod.mk.injEq] at e
      unfold badZ
      rw [e.2.1, e.2.2]
/-! DeltaBack. -/
theorem turn_diff (k : ByteArray) (a b : Option Int) (ha : ∀ n, a = some n → inW n) (hb : ∀ n, b = some n → inW n) : turnF false k a (diffF k a b) = b := by
  cases a with
  | none =>
    cases b with
    | none => rfl
    | some y =>
      have := hb _ rfl
      unfold inW at this
      simp only [diffF, turnF]
      by_cases h : y = 0
      · simp [h]
      · have h2 : (y == 0) = false := by simpa using h
        simp [h2, Option.getD]
        rw [IntKind.wrap_u64]; omega
  | some x =>
    cases b with
    | none => simp [diffF, turnF]
    | some y =>
      have h1 := ha _ rfl
      have h2 := hb _ rfl
      unfold inW at h1 h2
      simp only [diffF]
      split
      · simp [turnF]
      · split
        · rename_i h; subst h; rfl
        · simp [turnF, Option.getD]
          rw [IntKind.wrap_u64]; omega
theorem diff_self (k : ByteArray) (a : Option Int) : diffF k a a = none := by
  cases a with
  | none => rfl
  | some x => simp [diffF]
theorem back_plain {a b : List Ct} (wa : WC a) (wb : WC b) (h : (diffE a b).2 = 0) :
    turnE false a (diffE a b).1 = (b, 0) ∧ diffE a a = ([], 0) ∧ rightH (diffE a b).1 = true := by
  obtain ⟨ra, rb, e, hl⟩ := diffE_ok h
  obtain ⟨hr, hw⟩ := diffE_right wa wb
  obtain ⟨a1, a2, a3⟩ := rightC_iff.1 ra
  obtain ⟨b1, b2, b3⟩ := rightC_iff.1 rb
  obtain ⟨s1, s2⟩ := made_srt diffF diffF_none a b a2 b2
  refine ⟨?_, ?_, hr⟩
  · have hm : made (turnF false) a (made diffF a b) = b := by
      obtain ⟨t1, t2⟩ := made_srt (turnF false) (turnF_none false) a (made diffF a b) a2 s1
      refine Srt.ext t1 b2 (fun k => ?_)
      rw [t2, s2]
      exact turn_diff k _ _ (fun n e => wa.lk e) (fun n e => wb.lk e)
    have hb : (zipR a (made diffF a b)).any badZ = false := by
      rw [Bool.eq_false_iff]
      intro hb
      obtain ⟨k, n, r, h1, h2⟩ := (bad_iff a2 s1).1 hb
      rw [s2, h2] at h1
      cases hk : lk b k with
      | none => rw [hk] at h1; cases h1
      | some y => rw [hk] at h1; cases h1
    rw [e] at hr ⊢
    unfold turnE
    rw [if_pos ⟨ra, hr⟩, if_neg (by rw [hb]; simp), hm]
    unfold cutE
    rw [if_pos b3]
  · have hm : made diffF a a = [] := by
      obtain ⟨t1, t2⟩ := made_srt diffF diffF_none a a a2 a2
      refine Srt.ext t1 List.Pairwise.nil (fun k => ?_)
      rw [t2, diff_self]; rfl
    unfold diffE
    rw [if_pos ⟨ra, ra⟩, hm]
    rfl
end Go.Proofs.Ytmilnhicmeblhaa
