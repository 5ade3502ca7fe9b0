/- The reference's Same, out of what was printed of it. -/
import Derived.Test.YtanbfejhhnhabaaDl
import Derived.Test.YtanbfejhhnhabaaPCrdtLatticex9
namespace Go.Proofs.Ytanbfejhhnhabaa
open Go.RowKit Go.Maps
open Go.Proofs.Ytanbfejhhnhabaa.PCrdtLattice
open Go.Proofs.YtanbfejhhnhabaaW.PrintWords
set_option maxRecDepth 100000
set_option linter.unusedVariables false
set_option linter.unusedSimpArgs false
set_option maxHeartbeats 1000000
theorem ba_ne {a b : ByteArray} (h : ¬ a = b) : ¬ a.toList = b.toList := by
  intro e
  rw [ByteArray.toList_eq, ByteArray.toList_eq] at e
  apply h
  cases a; cases b
  exact congrArg _ (Array.toList_inj.1 e)
theorem ba_beq {a b : ByteArray} (h : ¬ a = b) : (a.toList == b.toList) = false := by simpa using ba_ne h
def toS (a : Nd) : S33 := ⟨a.1, a.2.1, a.2.2⟩
theorem RD.kd3 {w : World} {A : Option Addr} {n c : Nat} {l : List Nd} (h : RD w 3 (.slice A n c) l.length (flat3 l)) : n = l.length ∧ l.length ≤ c ∧ c ≤ maxLen ∧ Kd.C k33 w A (l.map toS).length (l.map toS) ∨ l = [] ∧ A = none ∧ n = 0 ∧ c = 0 := by
  rcases h.2 with ⟨he, h0⟩ | ⟨g, off, cap, he, h1, h2, h3, h4⟩
  · simp at he
    have hl : l = [] := List.length_eq_zero_iff.1 h0
    subst hl
    exact .inr ⟨rfl, he.1, he.2.1, he.2.2⟩
  · simp at he
    obtain ⟨rfl, rfl, rfl⟩ := he
    refine .inl ⟨rfl, h2, h3, by simp, by unfold maxLen at h3; simp; omega, fun hp => ⟨_, rfl, fun j p hj => ?_⟩⟩
    simp only [List.getElem?_map, Option.map_eq_some_iff] at hj
    obtain ⟨a, ha, rfl⟩ := hj
    refine ⟨[.string a.1, .int .u64 a.2.1, .int .u64 a.2.2], rfl, k33_mk w (toS a), fun i u hi => ?_⟩
    have e : (⟨g, off, none⟩ : Addr).add (j * 3 + i) = ⟨g, off + (j * 3 + i), none⟩ := by unfold Addr.add; split <;> simp_all
    rw [show k33.sz = 3 from rfl, e]
    refine h4 _ _ ?_
    have hf := flat3_get l j a ha
    match i, hi with
    | 0, hi => simp at hi; subst hi; exact hf.1
    | 1, hi => simp at hi; subst hi; exact hf.2.1
    | 2, hi => simp at hi; subst hi; exact hf.2.2
    | i + 3, hi => simp at hi
theorem RD.kdN {w : World} {A : Option Addr} {n c : Nat} {l : List Nd} (h : RD w 3 (.slice A n c) l.length (flat3 l)) : n = l.length ∧ l.length ≤ c ∧ l.length ≤ maxLen ∧ Kd.C k33 w A (l.map toS).length (l.map toS) := by
  rcases RD.kd3 h with ⟨h1, h2, h3, h4⟩ | ⟨rfl, rfl, rfl, rfl⟩
  · exact ⟨h1, h2, by omega, h4⟩
  · exact ⟨rfl, by simp, by simp, by simp, by simp, by simp⟩
theorem drawn_fr {w w' : World} (h : Drawn0 w w') : Fr [] w w' := by
  obtain ⟨n, rfl⟩ := h
  exact (Fr.refl _ _).drN n
theorem w64 {n : Nat} (h : n < 9223372036854775807) : wrap64 ((n : Int) + 1) = ((n + 1 : Nat) : Int) := by
  unfold wrap64
  omega
theorem rd_at {l : List Nd} {j : Nat} {x : Nd} (h : l[j]? = some x) : rd_T33 (l.map toS) (j : Int) = toS x := by
  simp [rd_T33, List.getD, h]
theorem toS_eq (x y : Nd) : (!(((toS x).f0).toList == ((toS y).f0).toList) || (!((toS x).f1 == (toS y).f1) || !((toS x).f2 == (toS y).f2))) = decide (¬ x = y) := by
  obtain ⟨a, b, c⟩ := x
  obtain ⟨a', b', c'⟩ := y
  simp only [toS, Prod.mk.injEq]
  by_cases h1 : a = a'
  · subst h1
    by_cases h2 : b = b'
    · subst h2
      by_cases h3 : c = c'
      · subst h3; simp
      · simp [h3]
    · simp [h2]
  · rw [ba_beq h1]; simp [h1]
theorem same_l0 (a b : List Nd) (hab : b.length = a.length) (hl : a.length ≤ maxLen) : ∀ (k j : Nat), j ≤ a.length → a.length - j < k →
    abacusref23_Same.l0 k (a.map toS) (b.map toS) (a.length : Int) (j : Int) = some (decide (a.drop j = b.drop j)) := by
  intro k
  induction k with
  | zero => intro j _ h; omega
  | succ k ih =>
    intro j hj hk
    simp only [abacusref23_Same.l0]
    by_cases h : j < a.length
    · obtain ⟨x, hx⟩ : ∃ x, a[j]? = some x := ⟨_, List.getElem?_eq_getElem h⟩
      obtain ⟨y, hy⟩ : ∃ y, b[j]? = some y := ⟨_, List.getElem?_eq_getElem (by omega)⟩
      rw [if_pos (by omega), if_pos (by omega), if_pos (by simp; omega), if_pos (by simp; omega), rd_at hx, rd_at hy]
      have hdx : a.drop j = x :: a.drop (j + 1) := by
        rw [List.drop_eq_getElem_cons h]; congr 1; rw [List.getElem?_eq_getElem h] at hx; exact Option.some.inj hx
      have hdy : b.drop j = y :: b.drop (j + 1) := by
        rw [List.drop_eq_getElem_cons (by omega)]; congr 1; rw [List.getElem?_eq_getElem (by omega)] at hy; exact Option.some.inj hy
      rw [hdx, hdy]
      by_cases e : x = y
      · subst e
        have := toS_eq x x
        rw [if_neg (by rw [this]; simp), w64 (by unfold maxLen at hl; omega), ih (j + 1) (by omega) (by omega)]
        simp
      · have := toS_eq x y
        rw [if_pos (by rw [this]; simp [e])]
        simp [e]
    · obtain rfl : j = a.length := by omega
      rw [if_neg (by omega), List.drop_length, ← hab, List.drop_length]
      simp
theorem same_f (a b : List Nd) (hl : a.length ≤ maxLen) : abacusref23_Same.f (a.length + 1) (a.map toS) (b.map toS) = some (decide (a = b)) := by
  unfold abacusref23_Same.f
  by_cases h : b.length = a.length
  · rw [if_pos (by simp; omega)]
    have := same_l0 a b h hl (a.length + 1) 0 (by omega) (by omega)
    simp only [List.drop_zero] at this
    simpa using this
  · rw [if_neg (by simp; omega)]
    have : ¬ a = b := fun e => h (by rw [e])
    simp [this]
theorem same_any (v1 v2 : Value) (a b : List Nd) (w : World) (h1 : RN w v1 a) (h2 : RN w v2 b) :
    Calls Try.prog 18 #[v1, v2] w fun e w' => e = .returned (.bool (decide (a = b))) ∧ Fr [] w w' := by
  obtain ⟨p1, q1, rfl⟩ := h1.at_
  obtain ⟨p2, q2, rfl⟩ := h2.at_
  obtain ⟨-, c1, m1, K1⟩ := RD.kdN h1
  obtain ⟨-, c2, m2, K2⟩ := RD.kdN h2
  have hc := abacusref23_Same.calls (a.length + 1) p1 q1 (a.map toS) p2 q2 (b.map toS) (decide (a = b)) w K1 (by simpa using c1) K2 (by simpa using c2) (same_f a b m1)
  simp only [List.length_map] at hc
  refine hc.mono ?_
  rintro e w' ⟨rfl, hd⟩
  exact ⟨rfl, drawn_fr hd⟩
end Go.Proofs.Ytanbfejhhnhabaa
