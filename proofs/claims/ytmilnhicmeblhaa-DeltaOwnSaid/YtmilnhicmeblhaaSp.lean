/- The package delta: slices that are written over. -/
import Derived.Test.YtmilnhicmeblhaaSy
namespace Go.Proofs.Ytmilnhicmeblhaa
open Go.RowKit Go.Maps Go.Sort
set_option maxRecDepth 100000
set_option linter.unusedVariables false
set_option linter.unusedSimpArgs false
set_option maxHeartbeats 4000000
/-- An own slice, whatever it holds. -/
structure XV (w : World) (base size : Nat) (v : Value) (n : Nat) : Prop where
  ex : ∃ xs, SV w base size v n xs
theorem SV.xv {w : World} {base size : Nat} {v : Value} {n : Nat} {xs : List Value} (h : SV w base size v n xs) : XV w base size v n := ⟨xs, h⟩
theorem XV.fr {S : List Nat} {w w' : World} {base size : Nat} {v : Value} {n : Nat} (h : XV w base size v n) (f : Fr S w w') (hs : ∀ g, v.ownBlock = some g → g ∉ S) : XV w' base size v n := by
  obtain ⟨xs, h⟩ := h
  exact ⟨xs, h.fr f hs⟩
theorem XV.own {w : World} {base size : Nat} {v : Value} {n : Nat} (h : XV w base size v n) {g : Nat} (hg : v.ownBlock = some g) : base ≤ g ∧ g < w.heap.size := by
  obtain ⟨xs, h⟩ := h
  exact h.own hg
theorem XV.any {w : World} {base size : Nat} {v : Value} {n : Nat} (h : XV w base size v n) (g o : Nat) (news : List Value) (hs : ∀ j, j < news.length → (w.cell? ⟨g, o + j, none⟩).isSome = true) : XV (w.setCells g o news) base size v n := by
  obtain ⟨xs, hlen, h2⟩ := h
  rcases h2 with h3 | ⟨g', o', c', he, k1, k2, k3, k4, k5, k6, k7⟩
  · exact ⟨xs, hlen, .inl h3⟩
  · have hcs : n * size ≤ c' * size := Nat.mul_le_mul_right _ k3
    have hall : ∀ j, j < c' * size → ((w.setCells g o news).cell? ⟨g', o' + j, none⟩).isSome = true := by
      intro j hj
      by_cases hin : g' = g ∧ o ≤ o' + j ∧ o' + j < o + news.length
      · obtain ⟨rfl, h4, h5⟩ := hin
        have := World.cell?_setCells_in g' news o w hs (o' + j - o) (by omega)
        rw [show o + (o' + j - o) = o' + j by omega] at this
        rw [this]; rfl
      · rw [World.cell?_setCells_out _ _ _ _ _ (by intro e _; have e' : g' = g := e; show o' + j < o ∨ o + news.length ≤ o' + j; omega)]
        exact k6 j hj
    refine ⟨(List.range (n * size)).map fun j => ((w.setCells g o news).cell? ⟨g', o' + j, none⟩).getD (.bool false), by simp, .inr ⟨g', o', c', he, k1, Nat.lt_of_lt_of_le k2 (Fr.setCells g news o w).size, k3, k4, ?_, hall, fun j => by rw [World.frozen?_setCells]; exact k7 j⟩⟩
    intro j u hj
    rw [List.getElem?_map] at hj
    have hjl : j < n * size := by
      rcases Nat.lt_or_ge j (n * size) with h5 | h5
      · exact h5
      · rw [List.getElem?_eq_none (by simpa using h5)] at hj; cases hj
    rw [List.getElem?_range hjl] at hj
    have h6 := hall j (by omega)
    obtain ⟨z, hz⟩ := Option.isSome_iff_exists.1 h6
    simp only [Option.map_some, Option.some.injEq] at hj
    rw [← hj, hz]; rfl
theorem XV.slot {w : World} {base size : Nat} {v : Value} {n : Nat} (h : XV w base size v n) (hn : 0 < n) : ∃ g o c, v = .slice (some ⟨g, o, none⟩) n c ∧ base ≤ g ∧ g < w.heap.size ∧ n ≤ c ∧ c ≤ maxLen ∧ (∀ j, j < n * size → (w.cell? ⟨g, o + j, none⟩).isSome = true) ∧ (∀ j, w.frozen? ⟨g, j, none⟩ = false) := by
  obtain ⟨xs, hlen, h2⟩ := h
  rcases h2 with ⟨h3, h4⟩ | ⟨g', o', c', he, k1, k2, k3, k4, k5, k6, k7⟩
  · omega
  · have hcs : n * size ≤ c' * size := Nat.mul_le_mul_right _ k3
    exact ⟨g', o', c', he, k1, k2, k3, k4, fun j hj => k6 j (by omega), k7⟩
/-- The cells of a place in it. -/
theorem XV.cells2 {w : World} {base : Nat} {v : Value} {n : Nat} (h : XV w base 2 v n) {j : Nat} (hj : j < n) : ∃ g o c u0 u1, v = .slice (some ⟨g, o, none⟩) n c ∧ n ≤ c ∧ c ≤ maxLen ∧ w.cell? ⟨g, o + j * 2, none⟩ = some u0 ∧ w.cell? ⟨g, o + j * 2 + 1, none⟩ = some u1 ∧ (∀ j, w.frozen? ⟨g, j, none⟩ = false) ∧ g < w.heap.size := by
  obtain ⟨g, o, c, he, k1, k2, k3, k4, k5, k6⟩ := h.slot (by omega)
  obtain ⟨u0, e0⟩ := Option.isSome_iff_exists.1 (k5 (j * 2) (by omega))
  obtain ⟨u1, e1⟩ := Option.isSome_iff_exists.1 (k5 (j * 2 + 1) (by omega))
  exact ⟨g, o, c, u0, u1, he, k3, k4, e0, by rw [Nat.add_assoc]; exact e1, k6, k2⟩
theorem XV.cells4 {w : World} {base : Nat} {v : Value} {n : Nat} (h : XV w base 4 v n) {j : Nat} (hj : j < n) : ∃ g o c u0 u1 u2 u3, v = .slice (some ⟨g, o, none⟩) n c ∧ n ≤ c ∧ c ≤ maxLen ∧ w.cell? ⟨g, o + j * 4, none⟩ = some u0 ∧ w.cell? ⟨g, o + j * 4 + 1, none⟩ = some u1 ∧ w.cell? ⟨g, o + j * 4 + 2, none⟩ = some u2 ∧ w.cell? ⟨g, o + j * 4 + 3, none⟩ = some u3 ∧ (∀ j, w.frozen? ⟨g, j, none⟩ = false) ∧ g < w.heap.size := by
  obtain ⟨g, o, c, he, k1, k2, k3, k4, k5, k6⟩ := h.slot (by omega)
  obtain ⟨u0, e0⟩ := Option.isSome_iff_exists.1 (k5 (j * 4) (by omega))
  obtain ⟨u1, e1⟩ := Option.isSome_iff_exists.1 (k5 (j * 4 + 1) (by omega))
  obtain ⟨u2, e2⟩ := Option.isSome_iff_exists.1 (k5 (j * 4 + 2) (by omega))
  obtain ⟨u3, e3⟩ := Option.isSome_iff_exists.1 (k5 (j * 4 + 3) (by omega))
  exact ⟨g, o, c, u0, u1, u2, u3, he, k3, k4, e0, by rw [Nat.add_assoc]; exact e1, by rw [Nat.add_assoc]; exact e2, by rw [Nat.add_assoc]; exact e3, k6, k2⟩
theorem XV.set2 {w : World} {base : Nat} {v : Value} {n : Nat} (h : XV w base 2 v n) {j : Nat} (hj : j < n) {g o c : Nat} (he : v = .slice (some ⟨g, o, none⟩) n c) (a b : Value) : XV (w.setCells g (o + j * 2) [a, b]) base 2 v n ∧ Fr v.ownBlock.toList w (w.setCells g (o + j * 2) [a, b]) := by
  obtain ⟨g', o', c', he', -, -, -, -, k5, -⟩ := h.slot (by omega)
  rw [he] at he'
  simp only [Value.slice.injEq, Option.some.injEq, Addr.mk.injEq] at he'
  obtain ⟨⟨rfl, rfl, -⟩, -, rfl⟩ := he'
  refine ⟨h.any _ _ _ (fun i hi => ?_), by rw [he]; exact Fr.setCells g _ _ w⟩
  simp at hi
  rw [Nat.add_assoc]
  exact k5 (j * 2 + i) (by omega)
theorem XV.set4 {w : World} {base : Nat} {v : Value} {n : Nat} (h : XV w base 4 v n) {j : Nat} (hj : j < n) {g o c : Nat} (he : v = .slice (some ⟨g, o, none⟩) n c) (a b x y : Value) : XV (w.setCells g (o + j * 4) [a, b, x, y]) base 4 v n ∧ Fr v.ownBlock.toList w (w.setCells g (o + j * 4) [a, b, x, y]) := by
  obtain ⟨g', o', c', he', -, -, -, -, k5, -⟩ := h.slot (by omega)
  rw [he] at he'
  simp only [Value.slice.injEq, Option.some.injEq, Addr.mk.injEq] at he'
  obtain ⟨⟨rfl, rfl, -⟩, -, rfl⟩ := he'
  refine ⟨h.any _ _ _ (fun i hi => ?_), by rw [he]; exact Fr.setCells g _ _ w⟩
  simp at hi
  rw [Nat.add_assoc]
  exact k5 (j * 4 + i) (by omega)
/-- Pushes of one's own that are written over from the front: from k on they are as they were. -/
structure WX (w : World) (base : Nat) (v : Value) (l : List Pu) (k : Nat) : Prop where
  sv : ∃ xs, SV w base 3 v l.length xs ∧ ∀ i x, k ≤ i → l[i]? = some x → xs[i * 3 + 2]? = some x.2.2.1
  ch : ∀ x ∈ l, XV w base 4 x.2.2.1 x.2.2.2.length ∧ (∀ g, x.2.2.1.ownBlock = some g → v.ownBlock ≠ some g)
def wxF (v : Value) (l : List Pu) : List Nat := v.ownBlock.toList ++ l.flatMap fun x => x.2.2.1.ownBlock.toList
theorem WO.wx {w : World} {base : Nat} {v : Value} {l : List Pu} (h : WO w base v l) : WX w base v l 0 :=
  ⟨⟨_, h.sv, fun i x _ hx => (flatU_get l i x hx).2.2⟩, fun x hx => ⟨(h.ch x hx).1.xv, (h.ch x hx).2.1⟩⟩
theorem WO.wxF {w : World} {base : Nat} {v : Value} {l : List Pu} (h : WO w base v l) : ∀ g ∈ wxF v l, base ≤ g ∧ g < w.heap.size := by
  intro g hg
  unfold Go.Proofs.Ytmilnhicmeblhaa.wxF at hg
  rcases List.mem_append.1 hg with hg | hg
  · exact h.sv.own (by simpa using hg)
  · obtain ⟨x, hx, hxg⟩ := List.mem_flatMap.1 hg
    exact (h.ch x hx).1.own (by simpa using hxg)
theorem WX.inner {w : World} {base : Nat} {v : Value} {l : List Pu} {k : Nat} (h : WX w base v l k) {x : Pu} (hx : x ∈ l) {j : Nat} (hj : j < x.2.2.2.length) {g o c : Nat} (he : x.2.2.1 = .slice (some ⟨g, o, none⟩) x.2.2.2.length c) (a b p q : Value) :
    WX (w.setCells g (o + j * 4) [a, b, p, q]) base v l k ∧ Fr (wxF v l) w (w.setCells g (o + j * 4) [a, b, p, q]) := by
  obtain ⟨h1, h2⟩ := h.ch x hx
  obtain ⟨g', o', c', he', -, -, -, -, k5, -⟩ := h1.slot (by omega)
  have hE := he
  rw [he] at he'
  simp only [Value.slice.injEq, Option.some.injEq, Addr.mk.injEq] at he'
  obtain ⟨⟨rfl, rfl, -⟩, -, rfl⟩ := he'
  have hs : ∀ i, i < [a, b, p, q].length → (w.cell? ⟨g, o + j * 4 + i, none⟩).isSome = true := by
    intro i hi
    simp at hi
    rw [Nat.add_assoc]
    exact k5 (j * 4 + i) (by omega)
  have hg : x.2.2.1.ownBlock = some g := by rw [hE]; rfl
  have hF := Fr.setCells g [a, b, p, q] (o + j * 4) w
  obtain ⟨xs, s1, s2⟩ := h.sv
  refine ⟨⟨⟨xs, s1.fr hF (fun z hz hm => ?_), s2⟩, fun y hy => ⟨(h.ch y hy).1.any _ _ _ hs, (h.ch y hy).2⟩⟩, hF.mono (fun z hz => ?_)⟩
  · simp at hm
    subst hm
    exact h2 _ hg hz
  · simp at hz
    subst hz
    exact List.mem_append_right _ (List.mem_flatMap.2 ⟨x, hx, by simp [hg]⟩)
theorem WX.outer {w : World} {base : Nat} {v : Value} {l : List Pu} {k : Nat} (h : WX w base v l k) (hk : k < l.length) {g o c : Nat} (he : v = .slice (some ⟨g, o, none⟩) l.length c) (a b p : Value) :
    WX (w.setCells g (o + k * 3) [a, b, p]) base v l (k + 1) ∧ Fr (wxF v l) w (w.setCells g (o + k * 3) [a, b, p]) := by
  obtain ⟨xs, s1, s2⟩ := h.sv
  have hE := he
  have hX := s1.xv
  obtain ⟨g', o', c', he', -, -, -, -, k5, -⟩ := hX.slot (by omega)
  rw [he] at he'
  simp only [Value.slice.injEq, Option.some.injEq, Addr.mk.injEq] at he'
  obtain ⟨⟨rfl, rfl, -⟩, -, rfl⟩ := he'
  have hs : ∀ i, i < [a, b, p].length → (w.cell? ⟨g, o + k * 3 + i, none⟩).isSome = true := by
    intro i hi
    simp at hi
    rw [Nat.add_assoc]
    exact k5 (k * 3 + i) (by omega)
  have hlen := s1.len
  rw [hE] at s1
  have hset := s1.setCells (k * 3) [a, b, p] (by simp; omega)
  rw [← hE] at hset
  refine ⟨⟨⟨_, hset, fun i x hi hx => ?_⟩, fun y hy => ⟨(h.ch y hy).1.any _ _ _ hs, (h.ch y hy).2⟩⟩, (Fr.setCells g [a, b, p] (o + k * 3) w).mono (fun z hz => ?_)⟩
  · have h5 := s2 i x (by omega) hx
    have h6 : i * 3 + 2 < xs.length := (List.getElem?_eq_some_iff.1 h5).1
    rw [List.getElem?_append_right (by simp; omega), List.getElem?_drop]
    simp only [List.length_append, List.length_take, List.length_cons, List.length_nil]
    rw [show k * 3 + (0 + 1 + 1 + 1) + (i * 3 + 2 - (min (k * 3) xs.length + (0 + 1 + 1 + 1))) = i * 3 + 2 by omega]
    exact h5
  · simp at hz
    subst hz
    exact List.mem_append_left _ (by rw [hE]; simp [Value.ownBlock])
theorem WX.fr0 {w w' : World} {base : Nat} {v : Value} {l : List Pu} {k : Nat} (h : WX w base v l k) (f : Fr [] w w') : WX w' base v l k := by
  obtain ⟨xs, s1, s2⟩ := h.sv
  exact ⟨⟨xs, s1.fr0 f, s2⟩, fun y hy => ⟨(h.ch y hy).1.fr f (by simp), (h.ch y hy).2⟩⟩
/-- The facts at one push. -/
theorem WX.at_ {w : World} {base : Nat} {v : Value} {l : List Pu} {k : Nat} (h : WX w base v l k) {x : Pu} (hx : l[k]? = some x) : ∃ g o c u0 u1, v = .slice (some ⟨g, o, none⟩) l.length c ∧ l.length ≤ c ∧ c ≤ maxLen ∧ w.cell? ⟨g, o + k * 3, none⟩ = some u0 ∧ w.cell? ⟨g, o + k * 3 + 1, none⟩ = some u1 ∧ w.cell? ⟨g, o + k * 3 + 2, none⟩ = some x.2.2.1 ∧ (∀ j, w.frozen? ⟨g, j, none⟩ = false) ∧ g < w.heap.size := by
  obtain ⟨xs, s1, s2⟩ := h.sv
  have hk : k < l.length := (List.getElem?_eq_some_iff.1 hx).1
  obtain ⟨g, o, c, he, k1, k2, k3, k4, k5, k6⟩ := s1.xv.slot (by omega)
  obtain ⟨u0, e0⟩ := Option.isSome_iff_exists.1 (k5 (k * 3) (by omega))
  obtain ⟨u1, e1⟩ := Option.isSome_iff_exists.1 (k5 (k * 3 + 1) (by omega))
  obtain ⟨g', o', c', he', -, -, -, -, q5⟩ := s1.cells (by omega)
  have hE := he
  rw [he] at he'
  simp only [Value.slice.injEq, Option.some.injEq, Addr.mk.injEq] at he'
  obtain ⟨⟨rfl, rfl, -⟩, -, rfl⟩ := he'
  have e2 := q5 (k * 3 + 2) _ (s2 k x (Nat.le_refl _) hx)
  exact ⟨g, o, c, u0, u1, hE, k3, k4, e0, by rw [Nat.add_assoc]; exact e1, by rw [Nat.add_assoc]; exact e2, k6, k2⟩
end Go.Proofs.Ytmilnhicmeblhaa
