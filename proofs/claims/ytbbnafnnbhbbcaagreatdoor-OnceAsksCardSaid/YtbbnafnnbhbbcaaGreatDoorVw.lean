/- A view of a registry: what it has; known. -/
import Derived.Test.YtbbnafnnbhbbcaaGreatDoorMap
import Derived.Test.YtbbnafnnbhbbcaaGreatDoorSv
namespace Go.Proofs.YtbbnafnnbhbbcaaGreatDoor
open Go.RowKit Go.Maps
set_option maxRecDepth 100000
set_option linter.unusedVariables false
set_option linter.unusedSimpArgs false
set_option maxHeartbeats 4000000
theorem MV.frb {S : List Nat} {w w' : World} {base : Nat} {mv : Value} {n : Nat} {f : ByteArray → Option Nat} (h : MV w base mv n f) (k : Fr S w w') (hs : ∀ b ∈ S, b < base) : MV w' base mv n f := by
  rcases h with h | ⟨b, D, rfl, hb, ⟨es, clock, he, r⟩, hD⟩
  · exact .inl h
  · have hlt : b < w.heap.size := (Array.getElem?_eq_some_iff.1 he).1
    exact .inr ⟨b, D, rfl, hb, ⟨es, clock, (k.block b hlt (fun hm => by have := hs b hm; omega)).trans he, r⟩, hD⟩
/-- The cells of asks. -/
def flat (l : List (ByteArray × Int)) : List Value := l.flatMap fun a => [.string a.1, .int .u8 a.2]
theorem flat_len (l : List (ByteArray × Int)) : (flat l).length = l.length * 2 := by
  induction l with
  | nil => rfl
  | cons a l ih => simp [flat] at ih ⊢; omega
theorem flat_get (l : List (ByteArray × Int)) (i : Nat) (a : ByteArray × Int) (h : l[i]? = some a) : (flat l)[i * 2]? = some (.string a.1) ∧ (flat l)[i * 2 + 1]? = some (.int .u8 a.2) := by
  induction l generalizing i with
  | nil => simp at h
  | cons b l ih =>
    cases i with
    | zero => simp at h; subst h; simp [flat]
    | succ i =>
      have := ih i (by simpa using h)
      simp only [flat, List.flatMap_cons] at this ⊢
      rw [show (i + 1) * 2 = (i * 2) + 2 by omega, show i * 2 + 2 + 1 = (i * 2 + 1) + 2 by omega]
      rw [List.getElem?_append_right (by simp), List.getElem?_append_right (by simp)]
      simpa using this
/-- Where a name stands. -/
def placeF (l : List (ByteArray × Int)) (s : ByteArray) : Option Nat := l.findIdx? fun a => decide (a.1 = s)
structure VW (w : World) (base bv : Nat) (l : List (ByteArray × Int)) : Prop where
  ex : ∃ sv mv, Blk w bv #[sv, mv] 79 ∧ SV w base 2 sv l.length (flat l) ∧ MV w base mv l.length (placeF l)
  le : base ≤ bv
  n : l.length ≤ 4096
theorem VW.frb {S : List Nat} {w w' : World} {base bv : Nat} {l : List (ByteArray × Int)} (h : VW w base bv l) (k : Fr S w w') (hs : ∀ b ∈ S, b < base) : VW w' base bv l := by
  obtain ⟨⟨sv, mv, h1, h2, h3⟩, h4, h5⟩ := h
  exact ⟨⟨sv, mv, k.blk h1 (fun hm => by have := hs bv hm; omega), h2.frb k hs, h3.frb k hs⟩, h4, h5⟩
theorem VW.empty {w : World} {base bv : Nat} (h : Blk w bv #[.slice none 0 0, .map none] 79) (hb : base ≤ bv) : VW w base bv [] :=
  ⟨⟨_, _, h, SV.nil _ _ _, .inl ⟨rfl, fun _ => rfl⟩⟩, hb, by simp⟩
theorem place_get {l : List (ByteArray × Int)} {s : ByteArray} {i : Nat} (h : placeF l s = some i) : ∃ k, l[i]? = some (s, k) := by
  obtain ⟨hi, h1, _⟩ := List.findIdx?_eq_some_iff_getElem.1 h
  have h1' : l[i].1 = s := by simpa using h1
  exact ⟨l[i].2, by rw [List.getElem?_eq_getElem hi, ← h1']⟩
theorem known_none (bv base : Nat) (l : List (ByteArray × Int)) (s : ByteArray) (k : Int) (w : World) (h : VW w base bv l) (hs : s.size ≤ maxLen) (hp : placeF l s = none) :
    Calls Tryz.prog 19 #[.pointer (some ⟨bv, 0, none⟩), .agg #[.string s, .int .u8 k]] w fun e w' => e = .returned (.tuple #[.int .i64 0, .bool false, .int .i64 0]) ∧ Fr [] w w' := by
  obtain ⟨⟨sv, mv, h1, h2, h3⟩, h4, h5⟩ := h
  have hB := h1.alloc (.cells #[.string s, .int .u8 k] 31)
  have hF : Fr [] w (w.alloc (.cells #[.string s, .int .u8 k] 31)) := (Fr.refl _ _).alloc _
  have hc := h1.cell
  have hl := h1.lt
  have hlk : ∀ W, Fr [] w W → (Instr.lookup 77 mv (.string s) true).run Tryz.prog W = .ok (.tuple #[.int .i64 0, .bool false]) W := fun W f => by
    have := (h3.frb f (by simp)).look s hs
    rw [hp] at this
    exact this
  have hl0 := hlk _ hF
  have hl1 := fun n => hlk _ (hF.drN n)
  go_enter Tryz.func19, Tryz.ntmps19
  go_wp2
  go_quiet (fail)
  go_wp2
  go_quiet (fail)
  go_wp2
  go_ret3
  exact ⟨rfl, (hF.drN _).drN _⟩
theorem SV.cells {w : World} {base size : Nat} {v : Value} {n : Nat} {xs : List Value} (h : SV w base size v n xs) (hn : 0 < n) : ∃ g o c, v = .slice (some ⟨g, o, none⟩) n c ∧ base ≤ g ∧ g < w.heap.size ∧ n ≤ c ∧ c ≤ maxLen ∧ (∀ j u, xs[j]? = some u → w.cell? ⟨g, o + j, none⟩ = some u) := by
  rcases h.2 with ⟨_, h2⟩ | ⟨g, o, c, h1, h2, h3, h4, h5, h6, _⟩
  · omega
  · exact ⟨g, o, c, h1, h2, h3, h4, h5, h6⟩
theorem known_same (bv base i : Nat) (l : List (ByteArray × Int)) (s : ByteArray) (k : Int) (w : World) (h : VW w base bv l) (hs : s.size ≤ maxLen) (hp : placeF l s = some i) (hk : l[i]? = some (s, k)) :
    Calls Tryz.prog 19 #[.pointer (some ⟨bv, 0, none⟩), .agg #[.string s, .int .u8 k]] w fun e w' => e = .returned (.tuple #[.int .i64 i, .bool true, .int .i64 0]) ∧ Fr [] w w' := by
  obtain ⟨⟨sv, mv, h1, h2, h3⟩, h4, h5⟩ := h
  have hil : i < l.length := (List.getElem?_eq_some_iff.1 hk).1
  obtain ⟨g, o, c, rfl, g1, g2, g3, g4, g5⟩ := h2.cells (by omega)
  have gk := g5 (i * 2 + 1) _ (flat_get l i _ hk).2
  rw [← Nat.add_assoc] at gk
  have hi2 : (i : Int) < (l.length : Int) := by omega
  have hF : Fr [] w (w.alloc (.cells #[.string s, .int .u8 k] 31)) := (Fr.refl _ _).alloc _
  have hc := h1.cell
  have hl := h1.lt
  have hl1 : ∀ n, (Instr.lookup 77 mv (.string s) true).run Tryz.prog ((w.alloc (.cells #[.string s, .int .u8 k] 31)).drewN n) = .ok (.tuple #[.int .i64 i, .bool true]) ((w.alloc (.cells #[.string s, .int .u8 k] 31)).drewN n) := fun n => by
    have := (h3.frb (hF.drN n) (by simp)).look s hs
    rw [hp] at this
    exact this
  go_enter Tryz.func19, Tryz.ntmps19
  go_wp2
  go_quiet (fail)
  go_wp2
  go_quiet (fail)
  go_wp2
  go_ret3
  exact ⟨rfl, (hF.drN _).drN _⟩
theorem known_other (bv base i : Nat) (l : List (ByteArray × Int)) (s : ByteArray) (k k' : Int) (w : World) (h : VW w base bv l) (hs : s.size ≤ maxLen) (hp : placeF l s = some i) (hk : l[i]? = some (s, k')) (hne : ¬ k' = k) :
    Calls Tryz.prog 19 #[.pointer (some ⟨bv, 0, none⟩), .agg #[.string s, .int .u8 k]] w fun e w' => e = .returned (.tuple #[.int .i64 0, .bool true, .int .i64 132]) ∧ Fr [] w w' := by
  obtain ⟨⟨sv, mv, h1, h2, h3⟩, h4, h5⟩ := h
  have hil : i < l.length := (List.getElem?_eq_some_iff.1 hk).1
  obtain ⟨g, o, c, rfl, g1, g2, g3, g4, g5⟩ := h2.cells (by omega)
  have gk := g5 (i * 2 + 1) _ (flat_get l i _ hk).2
  rw [← Nat.add_assoc] at gk
  have hi2 : (i : Int) < (l.length : Int) := by omega
  have hF : Fr [] w (w.alloc (.cells #[.string s, .int .u8 k] 31)) := (Fr.refl _ _).alloc _
  have hc := h1.cell
  have hl := h1.lt
  have hl1 : ∀ n, (Instr.lookup 77 mv (.string s) true).run Tryz.prog ((w.alloc (.cells #[.string s, .int .u8 k] 31)).drewN n) = .ok (.tuple #[.int .i64 i, .bool true]) ((w.alloc (.cells #[.string s, .int .u8 k] 31)).drewN n) := fun n => by
    have := (h3.frb (hF.drN n) (by simp)).look s hs
    rw [hp] at this
    exact this
  go_enter Tryz.func19, Tryz.ntmps19
  go_wp2
  go_quiet (fail)
  go_wp2
  go_quiet (fail)
  go_wp2
  all_goals go_ret3
  all_goals exact ⟨rfl, (hF.drN _).drN _⟩
end Go.Proofs.YtbbnafnnbhbbcaaGreatDoor
