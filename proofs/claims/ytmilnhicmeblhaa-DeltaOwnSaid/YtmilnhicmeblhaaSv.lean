/- A slice of the call's own that may begin inside its block: read, appended to, cut at its head. -/
import Derived.Test.YtmilnhicmeblhaaFr
import Derived.ArgAppend
import Derived.Laws.IdiomCopy
namespace Go.Proofs.Ytmilnhicmeblhaa
open Go.RowKit
/-- v is a slice of n elements of 'size' cells each: the cells xs, in a block from base on. -/
def SV (w : World) (base size : Nat) (v : Value) (n : Nat) (xs : List Value) : Prop :=
  xs.length = n * size ∧ ((v = .slice none 0 0 ∧ n = 0) ∨
    ∃ g off cap, v = .slice (some ⟨g, off, none⟩) n cap ∧ base ≤ g ∧ g < w.heap.size ∧ n ≤ cap ∧ cap ≤ maxLen ∧ (∀ j u, xs[j]? = some u → w.cell? ⟨g, off + j, none⟩ = some u) ∧
      (∀ j, j < cap * size → (w.cell? ⟨g, off + j, none⟩).isSome = true) ∧ (∀ j, w.frozen? ⟨g, j, none⟩ = false))
theorem SV.nil (w : World) (base size : Nat) : SV w base size (.slice none 0 0) 0 [] := ⟨by simp, .inl ⟨rfl, rfl⟩⟩
theorem SV.len {w : World} {base size : Nat} {v : Value} {n : Nat} {xs : List Value} (h : SV w base size v n xs) : xs.length = n * size := h.1
theorem SV.at_ {w : World} {base size : Nat} {v : Value} {n : Nat} {xs : List Value} (h : SV w base size v n xs) : ∃ a c, v = .slice a n c := by
  rcases h.2 with ⟨rfl, rfl⟩ | ⟨g, off, cap, rfl, _⟩
  · exact ⟨_, _, rfl⟩
  · exact ⟨_, _, rfl⟩
theorem SV.own {w : World} {base size : Nat} {v : Value} {n : Nat} {xs : List Value} (h : SV w base size v n xs) {g : Nat} (hg : v.ownBlock = some g) : base ≤ g ∧ g < w.heap.size := by
  rcases h.2 with ⟨rfl, rfl⟩ | ⟨g', off, cap, rfl, h1, h2, _⟩
  · simp [Value.ownBlock] at hg
  · simp [Value.ownBlock] at hg; subst hg; exact ⟨h1, h2⟩
theorem SV.fr {S : List Nat} {w w' : World} {base size : Nat} {v : Value} {n : Nat} {xs : List Value} (h : SV w base size v n xs) (f : Fr S w w') (hs : ∀ g, v.ownBlock = some g → g ∉ S) : SV w' base size v n xs := by
  refine ⟨h.1, ?_⟩
  rcases h.2 with h2 | ⟨g, off, cap, rfl, h1, h2, h3, h4, h5, h6, h7⟩
  · exact .inl h2
  · have e := f.block g h2 (hs g rfl)
    exact .inr ⟨g, off, cap, rfl, h1, Nat.lt_of_lt_of_le h2 f.size, h3, h4, fun j u hj => (World.cell?_of_block (a := ⟨g, off + j, none⟩) e).trans (h5 j u hj), fun j hj => by rw [World.cell?_of_block (a := ⟨g, off + j, none⟩) e]; exact h6 j hj,
      fun j => by rw [World.frozen?_of_block (a := ⟨g, j, none⟩) e]; exact h7 j⟩
theorem SV.fr0 {w w' : World} {base size : Nat} {v : Value} {n : Nat} {xs : List Value} (h : SV w base size v n xs) (f : Fr [] w w') : SV w' base size v n xs := h.fr f (by simp)
theorem SV.al {w : World} {base size : Nat} {v : Value} {n : Nat} {xs : List Value} (h : SV w base size v n xs) (o : Obj) : SV (w.alloc o) base size v n xs := h.fr0 ((Fr.refl _ _).alloc _)
/-- Writes below 'base' or to new blocks leave it. -/
theorem SV.frb {S : List Nat} {w w' : World} {base size : Nat} {v : Value} {n : Nat} {xs : List Value} (h : SV w base size v n xs) (f : Fr S w w') (hs : ∀ b ∈ S, b < base) : SV w' base size v n xs :=
  h.fr f (fun g hg hm => by have := (h.own hg).1; have := hs g hm; omega)
theorem SV.of_owns {w : World} {base B e size : Nat} {v : Value} {n : Nat} {xs : List Value} (h : w.ownsRow base e size v n xs) (hb : B ≤ base) : SV w B size v n xs := by
  refine ⟨h.1, ?_⟩
  rcases h.2 with h2 | ⟨g, cap, cur, rfl, h3, h4, h5, h6, h7, h8⟩
  · exact .inl h2
  · refine .inr ⟨g, 0, cap, rfl, by omega, (Array.getElem?_eq_some_iff.1 h4).1, h5, h6, fun j u hj => ?_, fun j hj => ?_, fun j => by simp [World.frozen?, h4]⟩
    · have hj2 : cur[j]? = some u := by
        rw [← h8] at hj
        rw [List.getElem?_take] at hj
        split at hj
        · simpa using hj
        · cases hj
      simp [World.cell?, h4, hj2]
    · simp [World.cell?, h4]; omega
theorem Fr.setCells (g : Nat) : ∀ (vs : List Value) (o : Nat) (w : World), Fr [g] w (w.setCells g o vs) := by
  intro vs
  induction vs with
  | nil => intro o w; exact Fr.refl _ _
  | cons v vs ih => intro o w; exact Fr.trans ((Fr.refl [g] w).set (.inl (by simp)) v) (ih (o + 1) _)
/-- One more law on append: in one way. -/
theorem wpList_append_sv {P : Program} (w : World) {ops : Array Oper} {rest : List Oper} {o : Oper} {a : Act} {Q : Exit → Act → World → Prop}
    (hg : o.guard = none) (s x : Operand) (t : TypeId) (hop : o.op = Op.call { callee := Callee.builtin Builtin.append, args := #[s, x], argTypes := #[t, t] })
    (e : TypeId) (i : TypeInfo) (z : Value) (size bytes : Nat) (h1 : P.underlying t = some (.slice e)) (h2 : P.info? e = some i) (h3 : i.zero = some z) (h4 : i.size = size) (h5 : i.bytes = bytes) (h6 : z.cells.size = size) (h7 : 0 < size)
    (base : Nat) (v : Value) (n : Nat) (xs : List Value) (hs : a.eval s = v) (hS : SV w base size v n xs) (hB : base ≤ w.heap.size)
    (ad : Addr) (m c : Nat) (news : List Value) (hx : a.eval x = .slice (some ad) m c) (hn : news.length = m * size) (hc : ∀ j u, news[j]? = some u → w.cell? (ad.add j) = some u) (h1c : ∀ u ∈ news, u.oneCell' = true)
    (b1 : n + m ≤ maxLen) (b2 : (n + m) * bytes ≤ 140737488355328)
    (hK : ∀ v' w', SV w' base size v' (n + m) (xs ++ news) → Fr v.ownBlock.toList w w' → wpList P ops Q rest (a.put o.dst v') w') :
    wpList P ops Q (o :: rest) a w := by
  obtain ⟨hlen, hv⟩ := hS
  rcases hv with ⟨rfl, rfl⟩ | ⟨g, off, cap, rfl, k1, k2, k3, k4, k5, k6, k7⟩
  · have hxs : xs = [] := List.length_eq_zero_iff.1 (by simpa using hlen)
    subst hxs
    refine wpList_append_own w hg s x t hop base e i z size bytes h1 h2 h3 h4 h5 h6 h7 _ 0 [] hs (World.ownsRow_nil w base e size) ad m c news hx hn hc h1c b1 b2 hB ?_
    intro v' w' hown hgrow _
    exact hK v' w' (SV.of_owns hown (Nat.le_refl _)) ⟨hgrow.os, hgrow.tape, hgrow.output, hgrow.size, fun k hk _ => hgrow.block k hk (by simp [Value.ownBlock])⟩
  · have key : (off : Nat) + cap * size ≥ off := by omega
    refine wpList_append_arg w hg s x t hop e i z size bytes h1 h2 h3 h4 h5 h6 h7 g off n cap xs hs hlen k5 ad m c news hx hn hc h1c ?_ b1 b2 ?_ ?_
    · intro hr j hj
      have hm : n * size + news.length ≤ cap * size := by rw [hn, ← Nat.add_mul]; exact Nat.mul_le_mul_right _ hr
      have := k6 (n * size + j) (by omega)
      rw [show off + n * size + j = off + (n * size + j) by omega]
      exact ⟨this, k7 _⟩
    · intro hr
      have hm : n * size + news.length ≤ cap * size := by rw [hn, ← Nat.add_mul]; exact Nat.mul_le_mul_right _ hr
      have hF := Fr.setCells g news (off + n * size) w
      have hsome : ∀ j, j < news.length → (w.cell? ⟨g, off + n * size + j, none⟩).isSome = true := fun j hj => by
        rw [show off + n * size + j = off + (n * size + j) by omega]; exact k6 _ (by omega)
      refine hK _ _ ⟨by rw [List.length_append, hlen, hn, Nat.add_mul], .inr ⟨g, off, cap, rfl, k1, Nat.lt_of_lt_of_le k2 hF.size, hr, k4, ?_, ?_, ?_⟩⟩ hF
      · intro j u hj
        by_cases hjl : j < n * size
        · rw [List.getElem?_append_left (by omega)] at hj
          rw [World.cell?_setCells_out _ _ _ _ _ (by intro _ _; left; show off + j < off + n * size; omega)]
          exact k5 j u hj
        · rw [List.getElem?_append_right (by omega), hlen] at hj
          have hjn : j - n * size < news.length := (List.getElem?_eq_some_iff.1 hj).1
          have := World.cell?_setCells_in g news (off + n * size) w hsome (j - n * size) hjn
          rw [show off + n * size + (j - n * size) = off + j by omega] at this
          rw [this]
          have h9 := (List.getElem?_eq_some_iff.1 hj).2
          rw [h9]
      · intro j hj
        by_cases hjl : off + j < off + n * size ∨ off + n * size + news.length ≤ off + j
        · rw [World.cell?_setCells_out _ _ _ _ _ (by intro _ _; exact hjl)]
          exact k6 j hj
        · have hjn : j - n * size < news.length := by omega
          have := World.cell?_setCells_in g news (off + n * size) w hsome (j - n * size) hjn
          rw [show off + n * size + (j - n * size) = off + j by omega] at this
          rw [this]; rfl
      · intro j
        rw [World.frozen?_setCells]; exact k7 j
    · intro hr v' w' hown hgrow
      exact hK v' w' (SV.of_owns hown hB) ⟨hgrow.os, hgrow.tape, hgrow.output, hgrow.size, fun k hk _ => hgrow.block k hk (by simp)⟩
end Go.Proofs.Ytmilnhicmeblhaa
