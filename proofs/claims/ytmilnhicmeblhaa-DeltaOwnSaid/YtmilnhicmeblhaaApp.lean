/- A slice that is read; an append of what is read to an own slice. -/
import Derived.Test.YtmilnhicmeblhaaSv
namespace Go.Proofs.Ytmilnhicmeblhaa
open Go.RowKit
set_option linter.unusedVariables false
set_option linter.unusedSimpArgs false
/-- v is a slice of n elements of 'size' cells each: it reads as the cells xs. -/
def RD (w : World) (size : Nat) (v : Value) (n : Nat) (xs : List Value) : Prop :=
  xs.length = n * size ∧ ((∃ A c, v = .slice A 0 c ∧ n = 0 ∧ c ≤ maxLen ∧ (A = none → c = 0)) ∨
    ∃ g off cap, v = .slice (some ⟨g, off, none⟩) n cap ∧ g < w.heap.size ∧ n ≤ cap ∧ cap ≤ maxLen ∧ (∀ j u, xs[j]? = some u → w.cell? ⟨g, off + j, none⟩ = some u))
theorem RD.nil (w : World) (size : Nat) : RD w size (.slice none 0 0) 0 [] := ⟨by simp, .inl ⟨none, 0, rfl, rfl, Nat.zero_le _, fun _ => rfl⟩⟩
/-- Any empty slice. -/
theorem RD.empty (w : World) (size : Nat) {A : Option Addr} {c : Nat} (hc : c ≤ maxLen) (hA : A = none → c = 0) : RD w size (.slice A 0 c) 0 [] := ⟨by simp, .inl ⟨A, c, rfl, rfl, hc, hA⟩⟩
theorem SV.rd {w : World} {base size : Nat} {v : Value} {n : Nat} {xs : List Value} (h : SV w base size v n xs) : RD w size v n xs := by
  refine ⟨h.1, ?_⟩
  rcases h.2 with ⟨h2, h3⟩ | ⟨g, off, cap, h1, h2, h3, h4, h5, h6, _⟩
  · exact .inl ⟨none, 0, h2, h3, Nat.zero_le _, fun _ => rfl⟩
  · exact .inr ⟨g, off, cap, h1, h3, h4, h5, h6⟩
theorem RD.at_ {w : World} {size : Nat} {v : Value} {n : Nat} {xs : List Value} (h : RD w size v n xs) : ∃ a c, v = .slice a n c := by
  rcases h.2 with ⟨A, c, rfl, rfl, _⟩ | ⟨g, off, cap, rfl, _⟩
  · exact ⟨_, _, rfl⟩
  · exact ⟨_, _, rfl⟩
theorem RD.cells {w : World} {size : Nat} {v : Value} {n : Nat} {xs : List Value} (h : RD w size v n xs) (hn : 0 < n) : ∃ g o c, v = .slice (some ⟨g, o, none⟩) n c ∧ g < w.heap.size ∧ n ≤ c ∧ c ≤ maxLen ∧ (∀ j u, xs[j]? = some u → w.cell? ⟨g, o + j, none⟩ = some u) := by
  rcases h.2 with ⟨_, _, _, h2, _⟩ | ⟨g, o, c, h1, h2, h3, h4, h5⟩
  · omega
  · exact ⟨g, o, c, h1, h2, h3, h4, h5⟩
/-- The block that a slice reads. -/
theorem RD.fr {S : List Nat} {w w' : World} {size : Nat} {v : Value} {n : Nat} {xs : List Value} (h : RD w size v n xs) (f : Fr S w w') (hs : ∀ g, v.ownBlock = some g → g ∉ S) : RD w' size v n xs := by
  refine ⟨h.1, ?_⟩
  rcases h.2 with h2 | ⟨g, off, cap, rfl, h2, h3, h4, h5⟩
  · exact .inl h2
  · have e := f.block g h2 (hs g rfl)
    exact .inr ⟨g, off, cap, rfl, Nat.lt_of_lt_of_le h2 f.size, h3, h4, fun j u hj => (World.cell?_of_block (a := ⟨g, off + j, none⟩) e).trans (h5 j u hj)⟩
theorem RD.frp {S : List Nat} {w w' : World} {size : Nat} {v : Value} {n : Nat} {xs : List Value} (h : RD w size v n xs) (f : Fr S w w') (hs : ∀ g, v.ownBlock = some g → 0 < n → g ∉ S) : RD w' size v n xs := by
  rcases Nat.eq_zero_or_pos n with h0 | h0
  · refine ⟨h.1, ?_⟩
    subst h0
    rcases h.2 with h2 | ⟨g, off, cap, h1, h2, h3, h4, h5⟩
    · exact .inl h2
    · exact .inl ⟨_, cap, h1, rfl, h4, fun h => by cases h⟩
  · exact h.fr f (fun g hg => hs g hg h0)
theorem RD.fr0 {w w' : World} {size : Nat} {v : Value} {n : Nat} {xs : List Value} (h : RD w size v n xs) (f : Fr [] w w') : RD w' size v n xs := h.fr f (by simp)
theorem RD.own {w : World} {size : Nat} {v : Value} {n : Nat} {xs : List Value} (h : RD w size v n xs) (hn : 0 < n) {g : Nat} (hg : v.ownBlock = some g) : g < w.heap.size := by
  rcases h.2 with ⟨_, _, _, h2, _⟩ | ⟨g', off, cap, rfl, h1, _⟩
  · omega
  · simp [Value.ownBlock] at hg; subst hg; exact h1
theorem run_append_src_nil {P : Program} (w : World) (t ty e : TypeId) (i : TypeInfo) (ht : P.underlying t = some (.slice e)) (hi : P.info? e = some i) (a : Option Addr) (n c : Nat) (hc : n ≤ c) (ha : a = none → n = 0) :
    (Builtin.append_ #[t, t] ty #[.slice a n c, .slice none 0 0]).run P w = .ok (.slice a n c) w := by
  rcases a with _ | a
  · have hn := ha rfl
    subst hn
    simp [Builtin.append_, run_underlying ht, sizeOf, typeInfo, hi, Builtin.lenOf, Builtin.firstCells]
  · simp [Builtin.append_, run_underlying ht, sizeOf, typeInfo, hi, Builtin.lenOf, Builtin.firstCells, hc, storeCells]
/-- An append of a slice that is read, nil or not, to an own slice. -/
theorem wpList_append_svr {P : Program} (w : World) {ops : Array Oper} {rest : List Oper} {o : Oper} {a : Act} {Q : Exit → Act → World → Prop}
    (hg : o.guard = none) (s x : Operand) (t : TypeId) (hop : o.op = Op.call { callee := Callee.builtin Builtin.append, args := #[s, x], argTypes := #[t, t] })
    (e : TypeId) (i : TypeInfo) (z : Value) (size bytes : Nat) (h1 : P.underlying t = some (.slice e)) (h2 : P.info? e = some i) (h3 : i.zero = some z) (h4 : i.size = size) (h5 : i.bytes = bytes) (h6 : z.cells.size = size) (h7 : 0 < size)
    (base : Nat) (v : Value) (n : Nat) (xs : List Value) (hs : a.eval s = v) (hS : SV w base size v n xs) (hB : base ≤ w.heap.size)
    (y : Value) (m : Nat) (news : List Value) (hx : a.eval x = y) (hR : RD w size y m news) (h1c : ∀ u ∈ news, u.oneCell' = true)
    (b1 : n + m ≤ maxLen) (b2 : (n + m) * bytes ≤ 140737488355328)
    (hK : ∀ v' w', SV w' base size v' (n + m) (xs ++ news) → Fr v.ownBlock.toList w w' → wpList P ops Q rest (a.put o.dst v') w') :
    wpList P ops Q (o :: rest) a w := by
  obtain ⟨hnl, hR⟩ := hR
  rcases hR with ⟨Ay, cy, rfl, rfl, hcy, hAy⟩ | ⟨g, off, cap, rfl, k1, k2, k3, k4⟩
  · rcases Ay with _ | ad
    case some =>
      refine wpList_append_sv w hg s x t hop e i z size bytes h1 h2 h3 h4 h5 h6 h7 base v n xs hs hS hB ad 0 cy news hx hnl ?_ h1c b1 b2 hK
      intro j u hj
      have hnews : news = [] := List.length_eq_zero_iff.1 (by simpa using hnl)
      rw [hnews] at hj
      simp at hj
    obtain rfl := hAy rfl
    have hnews : news = [] := List.length_eq_zero_iff.1 (by simpa using hnl)
    subst hnews
    have hSo := hS
    obtain ⟨av, c, rfl⟩ := hS.at_
    have hcc : n ≤ c ∧ (av = none → n = 0) := by
      rcases hS.2 with ⟨he, h0⟩ | ⟨g, off, cap, he, _, _, hc, _⟩
      · simp at he
        exact ⟨by omega, fun _ => h0⟩
      · simp at he
        obtain ⟨rfl, rfl⟩ := he
        exact ⟨hc, fun h => by cases h⟩
    refine wpList_plain hg fun K hK' => ?_
    have hrun := run_append_src_nil (P := P) w t o.type e i h1 h2 av n c hcc.1 hcc.2
    unfold Oper.wp
    simp [execOp, hop, resolve, invoke, builtin, hs, hx, hrun, Result.andThen]
    refine hK' _ _ (hK _ _ (by simpa using hSo) (Fr.refl _ _))
  · refine wpList_append_sv w hg s x t hop e i z size bytes h1 h2 h3 h4 h5 h6 h7 base v n xs hs hS hB ⟨g, off, none⟩ m cap news hx hnl ?_ h1c b1 b2 hK
    intro j u hj
    rw [show (⟨g, off, none⟩ : Addr).add j = ⟨g, off + j, none⟩ by unfold Addr.add; split <;> simp_all]
    exact k4 j u hj
end Go.Proofs.Ytmilnhicmeblhaa
