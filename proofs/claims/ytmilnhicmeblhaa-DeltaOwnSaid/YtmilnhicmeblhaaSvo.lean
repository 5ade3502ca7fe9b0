/- An append of an own slice, and where its block lies. -/
import Derived.Test.YtmilnhicmeblhaaSv
namespace Go.Proofs.Ytmilnhicmeblhaa
open Go.RowKit
theorem wpList_append_svo {P : Program} (w : World) {ops : Array Oper} {rest : List Oper} {o : Oper} {a : Act} {Q : Exit → Act → World → Prop}
    (hg : o.guard = none) (s x : Operand) (t : TypeId) (hop : o.op = Op.call { callee := Callee.builtin Builtin.append, args := #[s, x], argTypes := #[t, t] })
    (e : TypeId) (i : TypeInfo) (z : Value) (size bytes : Nat) (h1 : P.underlying t = some (.slice e)) (h2 : P.info? e = some i) (h3 : i.zero = some z) (h4 : i.size = size) (h5 : i.bytes = bytes) (h6 : z.cells.size = size) (h7 : 0 < size)
    (base : Nat) (v : Value) (n : Nat) (xs : List Value) (hs : a.eval s = v) (hS : SV w base size v n xs) (hB : base ≤ w.heap.size)
    (ad : Addr) (m c : Nat) (news : List Value) (hx : a.eval x = .slice (some ad) m c) (hn : news.length = m * size) (hc : ∀ j u, news[j]? = some u → w.cell? (ad.add j) = some u) (h1c : ∀ u ∈ news, u.oneCell' = true)
    (b1 : n + m ≤ maxLen) (b2 : (n + m) * bytes ≤ 140737488355328)
    (hK : ∀ v' w', SV w' base size v' (n + m) (xs ++ news) → Fr v.ownBlock.toList w w' → (∀ g, v'.ownBlock = some g → v.ownBlock = some g ∨ w.heap.size ≤ g) → wpList P ops Q rest (a.put o.dst v') w') :
    wpList P ops Q (o :: rest) a w := by
  obtain ⟨hlen, hv⟩ := hS
  rcases hv with ⟨rfl, rfl⟩ | ⟨g, off, cap, rfl, k1, k2, k3, k4, k5, k6, k7⟩
  · have hxs : xs = [] := List.length_eq_zero_iff.1 (by simpa using hlen)
    subst hxs
    refine wpList_append_own w hg s x t hop w.heap.size e i z size bytes h1 h2 h3 h4 h5 h6 h7 _ 0 [] hs (World.ownsRow_nil w w.heap.size e size) ad m c news hx hn hc h1c b1 b2 (Nat.le_refl _) ?_
    intro v' w' hown hgrow _
    have hsv := SV.of_owns hown (Nat.le_refl w.heap.size)
    have hsv2 : SV w' base size v' (0 + m) ([] ++ news) := by
      obtain ⟨q1, q2⟩ := hsv
      refine ⟨q1, ?_⟩
      rcases q2 with q2 | ⟨g, o', c', e', r1, r2⟩
      · exact .inl q2
      · exact .inr ⟨g, o', c', e', Nat.le_trans hB r1, r2⟩
    exact hK v' w' hsv2 ⟨hgrow.os, hgrow.tape, hgrow.output, hgrow.size, fun k hk _ => hgrow.block k hk (by simp [Value.ownBlock])⟩ (fun g hg => .inr (hsv.own hg).1)
  · refine wpList_append_arg w hg s x t hop e i z size bytes h1 h2 h3 h4 h5 h6 h7 g off n cap xs hs hlen k5 ad m c news hx hn hc h1c ?_ b1 b2 ?_ ?_
    · intro hr j hj
      have hm : n * size + news.length ≤ cap * size := by rw [hn, ← Nat.add_mul]; exact Nat.mul_le_mul_right _ hr
      have := k6 (n * size + j) (by omega)
      rw [show off + n * size + j = off + (n * size + j) by omega]
      exact ⟨this, k7 _⟩
    · intro hr
      have hm : n * size + news.length ≤ cap * size := by rw [hn, ← Nat.add_mul]; exact Nat.mul_le_mul_right _ hr
      have hF := Fr.setCells g news (off + n * size) w
      have hsome : ∀ j, j < news.length → (w.cell? ⟨g, off + n * size + j, none⟩).isSome = true := fun j hj => by
        rw [show off + n * size + j = off + (n * size + j) by omega]; exact k6 _ (by omega)
      refine hK _ _ ⟨by rw [List.length_append, hlen, hn, Nat.add_mul], .inr ⟨g, off, cap, rfl, k1, Nat.lt_of_lt_of_le k2 hF.size, hr, k4, ?_, ?_, ?_⟩⟩ hF (fun g' hg' => .inl hg')
      · intro j u hj
        by_cases hjl : j < n * size
        · rw [List.getElem?_append_left (by omega)] at hj
          rw [World.cell?_setCells_out _ _ _ _ _ (by intro _ _; left; show off + j < off + n * size; omega)]
          exact k5 j u hj
        · rw [List.getElem?_append_right (by omega), hlen] at hj
          have hjn : j - n * size < news.length := (List.getElem?_eq_some_iff.1 hj).1
          have := World.cell?_setCells_in g news (off + n * size) w hsome (j - n * size) hjn
          rw [show off + n * size + (j - n * size) = off + j by omega] at this
          rw [this]
          have h9 := (List.getElem?_eq_some_iff.1 hj).2
          rw [h9]
      · intro j hj
        by_cases hjl : off + j < off + n * size ∨ off + n * size + news.length ≤ off + j
        · rw [World.cell?_setCells_out _ _ _ _ _ (by intro _ _; exact hjl)]
          exact k6 j hj
        · have hjn : j - n * size < news.length := by omega
          have := World.cell?_setCells_in g news (off + n * size) w hsome (j - n * size) hjn
          rw [show off + n * size + (j - n * size) = off + j by omega] at this
          rw [this]; rfl
      · intro j
        rw [World.frozen?_setCells]; exact k7 j
    · intro hr v' w' hown hgrow
      have hsv := SV.of_owns hown (Nat.le_refl w.heap.size)
      have hsv2 : SV w' base size v' (n + m) (xs ++ news) := by
        obtain ⟨q1, q2⟩ := hsv
        refine ⟨q1, ?_⟩
        rcases q2 with q2 | ⟨g, o', c', e', r1, r2⟩
        · exact .inl q2
        · exact .inr ⟨g, o', c', e', Nat.le_trans hB r1, r2⟩
      exact hK v' w' hsv2 ⟨hgrow.os, hgrow.tape, hgrow.output, hgrow.size, fun k hk _ => hgrow.block k hk (by simp)⟩ (fun g hg => .inr (hsv.own hg).1)
end Go.Proofs.Ytmilnhicmeblhaa
