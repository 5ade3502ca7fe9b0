/- The package delta: pairs, the iterator: lists, small facts. -/
import Derived.Test.YtmilnhicmeblhaaPp
import Derived.RangeFuncNested
import Derived.RangeFuncBound
import Derived.RangeFuncCalls
import Derived.RangeFuncLeaves
import Derived.Shelf.Abstract
import Derived.Shelf.RegionOpen
import Derived.OwnWalkIn
import Derived.TacticsInMore
import Derived.LoopNIn
import Derived.LoopIn
namespace Go.Proofs.Ytmilnhicmeblhaa
open Go.RowKit Go.Shelf Go.Sort
set_option maxRecDepth 100000
set_option linter.unusedVariables false
set_option linter.unusedSimpArgs false
set_option maxHeartbeats 4000000
attribute [local go_sem] Oper.semAt_some
/-- A slice of counts that is read. -/
abbrev Ct := ByteArray × Int
abbrev Ch := ByteArray × Int × Bool × Bool
def flat2 (l : List Ct) : List Value := l.flatMap fun a => [.string a.1, .int .u64 a.2]
def flat4 (l : List Ch) : List Value := l.flatMap fun a => [.string a.1, .int .u64 a.2.1, .bool a.2.2.1, .bool a.2.2.2]
abbrev RC (w : World) (v : Value) (l : List Ct) : Prop := RD w 2 v l.length (flat2 l)
abbrev RH (w : World) (v : Value) (l : List Ch) : Prop := RD w 4 v l.length (flat4 l)
theorem flat2_get (l : List Ct) (i : Nat) (a : Ct) (h : l[i]? = some a) : (flat2 l)[i * 2]? = some (.string a.1) ∧ (flat2 l)[i * 2 + 1]? = some (.int .u64 a.2) := by
  have h1 := flatMap_at (f := fun a : Ct => [Value.string a.1, .int .u64 a.2]) (s := 2) (fun _ => rfl) l i a 0 h (by decide)
  have h2 := flatMap_at (f := fun a : Ct => [Value.string a.1, .int .u64 a.2]) (s := 2) (fun _ => rfl) l i a 1 h (by decide)
  exact ⟨h1, h2⟩
theorem flat4_get (l : List Ch) (i : Nat) (a : Ch) (h : l[i]? = some a) : (flat4 l)[i * 4]? = some (.string a.1) ∧ (flat4 l)[i * 4 + 1]? = some (.int .u64 a.2.1) ∧ (flat4 l)[i * 4 + 2]? = some (.bool a.2.2.1) ∧ (flat4 l)[i * 4 + 3]? = some (.bool a.2.2.2) := by
  have h1 := flatMap_at (f := fun a : Ch => [Value.string a.1, .int .u64 a.2.1, .bool a.2.2.1, .bool a.2.2.2]) (s := 4) (fun _ => rfl) l i a 0 h (by decide)
  have h2 := flatMap_at (f := fun a : Ch => [Value.string a.1, .int .u64 a.2.1, .bool a.2.2.1, .bool a.2.2.2]) (s := 4) (fun _ => rfl) l i a 1 h (by decide)
  have h3 := flatMap_at (f := fun a : Ch => [Value.string a.1, .int .u64 a.2.1, .bool a.2.2.1, .bool a.2.2.2]) (s := 4) (fun _ => rfl) l i a 2 h (by decide)
  have h4 := flatMap_at (f := fun a : Ch => [Value.string a.1, .int .u64 a.2.1, .bool a.2.2.1, .bool a.2.2.2]) (s := 4) (fun _ => rfl) l i a 3 h (by decide)
  exact ⟨h1, h2, h3, h4⟩
theorem Blk.below {n : Nat} {w w' : World} (h : RowKit.Below n w w') {b : Nat} {cs : Array Value} {t : TypeId} (hb : Blk w b cs t) (hn : b < n) : Blk w' b cs t := by
  have := h.block b hn
  unfold Blk at hb ⊢
  rw [this]; exact hb
theorem RD.below {n : Nat} {w w' : World} (h : RowKit.Below n w w') {size : Nat} {v : Value} {k : Nat} {xs : List Value} (hr : RD w size v k xs) (hn : 0 < k → ∀ g, v.ownBlock = some g → g < n) : RD w' size v k xs := by
  refine ⟨hr.1, ?_⟩
  rcases hr.2 with h2 | ⟨g, off, cap, rfl, h2, h3, h4, h5⟩
  · exact .inl h2
  · rcases Nat.eq_zero_or_pos k with h0 | h0
    · subst h0
      exact .inl ⟨_, cap, rfl, rfl, h4, fun h => by cases h⟩
    · have hg := hn h0 g rfl
      exact .inr ⟨g, off, cap, rfl, Nat.lt_of_lt_of_le h2 h.size, h3, h4, fun j u hj => (h.cell (p := ⟨g, off + j, none⟩) hg).trans (h5 j u hj)⟩
/-- What a round keeps: what lies below n₀, and the boxes L. -/
structure KB (n₀ : Nat) (L : List Nat) (w w' : World) : Prop where
  os : w'.os = w.os
  tape : w'.tape = w.tape
  output : w'.output = w.output
  size : w.heap.size ≤ w'.heap.size
  block : ∀ k, k < n₀ ∨ k ∈ L → k < w.heap.size → w'.heap[k]? = w.heap[k]?
theorem KB.refl (n₀ : Nat) (L : List Nat) (w : World) : KB n₀ L w w := ⟨rfl, rfl, rfl, Nat.le_refl _, fun _ _ _ => rfl⟩
theorem KB.trans {n₀ : Nat} {L : List Nat} {a b c : World} (h : KB n₀ L a b) (k : KB n₀ L b c) : KB n₀ L a c :=
  ⟨k.os.trans h.os, k.tape.trans h.tape, k.output.trans h.output, Nat.le_trans h.size k.size, fun i hi hs => (k.block i hi (Nat.lt_of_lt_of_le hs h.size)).trans (h.block i hi hs)⟩
theorem KB.of_fr {n₀ : Nat} {L S : List Nat} {a b : World} (h : Fr S a b) (hS : ∀ s ∈ S, n₀ ≤ s ∧ s ∉ L) : KB n₀ L a b :=
  ⟨h.os, h.tape, h.output, h.size, fun k hk hs => h.block k hs (fun e => (hk.elim (fun h1 => absurd h1 (by have := (hS k e).1; omega)) (fun h1 => (hS k e).2 h1)))⟩
theorem KB.put {n₀ : Nat} {L : List Nat} {w : World} (hn : n₀ ≤ w.heap.size) (hL : ∀ x ∈ L, x < w.heap.size) (W : World) (l : Nat) (o o' : Obj) (hl : w.heap.size ≤ l) (h : W.heap[l]? = some o) (_ : o.isCells = false) (_ : o.isWalk = false) : KB n₀ L W (W.putObj l o') := by
  have hg := grownBy_putObj' W l o'
  exact ⟨hg.os, hg.tape, hg.output, hg.size, fun k hk hs => hg.block k hs (fun e => by cases e; exact hk.elim (fun h1 => by omega) (fun h1 => by have := hL _ h1; omega))⟩
theorem KB.below {n₀ : Nat} {L : List Nat} {a b : World} (h : KB n₀ L a b) (hn : n₀ ≤ a.heap.size) : RowKit.Below n₀ a b := ⟨h.os, h.tape, h.output, h.size, fun k hk => h.block k (.inl hk) (by omega)⟩
theorem Blk.kb {n : Nat} {L : List Nat} {w w' : World} (h : KB n L w w') {b : Nat} {cs : Array Value} {t : TypeId} (hb : Blk w b cs t) (hn : b < n ∨ b ∈ L) : Blk w' b cs t := by
  have := h.block b hn hb.lt
  unfold Blk at hb ⊢
  rw [this]; exact hb
theorem RD.kb {n : Nat} {L : List Nat} {w w' : World} (h : KB n L w w') {size : Nat} {v : Value} {k : Nat} {xs : List Value} (hr : RD w size v k xs) (hn : 0 < k → ∀ g, v.ownBlock = some g → g < n) : RD w' size v k xs := by
  refine ⟨hr.1, ?_⟩
  rcases hr.2 with h2 | ⟨g, off, cap, rfl, h2, h3, h4, h5⟩
  · exact .inl h2
  · rcases Nat.eq_zero_or_pos k with h0 | h0
    · subst h0
      exact .inl ⟨_, cap, rfl, rfl, h4, fun h => by cases h⟩
    · have hg := hn h0 g rfl
      exact .inr ⟨g, off, cap, rfl, Nat.lt_of_lt_of_le h2 h.size, h3, h4, fun j u hj => (World.cell?_of_block (a := ⟨g, off + j, none⟩) (h.block g (.inl hg) h2)).trans (h5 j u hj)⟩
theorem step_pre {pre rest all : List It} {it : It} (h : pre ++ it :: rest = all) : (pre ++ [it]) ++ rest = all ∧ (pre ++ [it]) <+: all ∧ pre.length < all.length := by
  refine ⟨by rw [← h]; simp, ⟨rest, by rw [← h]; simp⟩, by rw [← h]; simp⟩
theorem Fr.grown {w w' : World} (F : Fr [] w w') : w.grownBy w' none := ⟨F.os, F.tape, F.output, F.size, fun k hk _ => F.block k hk (by simp)⟩
theorem Fr.cl {w w' : World} (F : Fr [] w w') {g o : Nat} {v : Value} (h : w.cell? ⟨g, o, none⟩ = some v) : w'.cell? ⟨g, o, none⟩ = some v :=
  (World.cell?_of_block (a := ⟨g, o, none⟩) (F.block g (World.block_lt_of_cell? w ⟨g, o, none⟩ h) (by simp))).trans h
end Go.Proofs.Ytmilnhicmeblhaa
