/- A view: Find, Len, All. -/
import Derived.Test.YtbbnafnnbhbbcaaGreatDoorVw
import Derived.Lib.SliceRun
namespace Go.Proofs.YtbbnafnnbhbbcaaGreatDoor
open Go.RowKit Go.Maps
set_option maxRecDepth 100000
set_option linter.unusedVariables false
set_option linter.unusedSimpArgs false
set_option maxHeartbeats 4000000
theorem find_none (bv base : Nat) (l : List (ByteArray × Int)) (s : ByteArray) (w : World) (h : VW w base bv l) (hs : s.size ≤ maxLen) (hp : placeF l s = none) :
    Calls Tryz.prog 30 #[.pointer (some ⟨bv, 0, none⟩), .string s] w fun e w' => e = .returned (.tuple #[.int .i64 0, .int .u8 0, .bool false]) ∧ Fr [] w w' := by
  obtain ⟨⟨sv, mv, h1, h2, h3⟩, h4, h5⟩ := h
  have hc := h1.cell
  have hl := h1.lt
  have hl0 : (Instr.lookup 77 mv (.string s) true).run Tryz.prog w = .ok (.tuple #[.int .i64 0, .bool false]) w := by
    have := h3.look s hs
    rw [hp] at this
    exact this
  go_enter Tryz.func30, Tryz.ntmps30
  go_wp2
  go_ret3
  exact ⟨rfl, Fr.refl _ _⟩
theorem find_some (bv base i : Nat) (l : List (ByteArray × Int)) (s : ByteArray) (k : Int) (w : World) (h : VW w base bv l) (hs : s.size ≤ maxLen) (hp : placeF l s = some i) (hk : l[i]? = some (s, k)) :
    Calls Tryz.prog 30 #[.pointer (some ⟨bv, 0, none⟩), .string s] w fun e w' => e = .returned (.tuple #[.int .i64 i, .int .u8 k, .bool true]) ∧ Fr [] w w' := by
  obtain ⟨⟨sv, mv, h1, h2, h3⟩, h4, h5⟩ := h
  have hil : i < l.length := (List.getElem?_eq_some_iff.1 hk).1
  obtain ⟨g, o, c, rfl, g1, g2, g3, g4, g5⟩ := h2.cells (by omega)
  have gk := g5 (i * 2 + 1) _ (flat_get l i _ hk).2
  rw [← Nat.add_assoc] at gk
  have hi2 : (i : Int) < (l.length : Int) := by omega
  have hc := h1.cell
  have hl := h1.lt
  have hl0 : (Instr.lookup 77 mv (.string s) true).run Tryz.prog w = .ok (.tuple #[.int .i64 i, .bool true]) w := by
    have := h3.look s hs
    rw [hp] at this
    exact this
  go_enter Tryz.func30, Tryz.ntmps30
  go_wp2
  go_quiet (fail)
  go_wp2
  go_ret3
  exact ⟨rfl, (Fr.refl _ _).drN _⟩
theorem vlen_any (bv base : Nat) (l : List (ByteArray × Int)) (w : World) (h : VW w base bv l) :
    Calls Tryz.prog 25 #[.pointer (some ⟨bv, 0, none⟩)] w fun e w' => e = .returned (.int .i64 (l.length : Int)) ∧ w = w' := by
  obtain ⟨⟨sv, mv, h1, h2, h3⟩, h4, h5⟩ := h
  have hc := h1.cell
  have hl := h1.lt
  obtain ⟨a, c, rfl⟩ := h2.at_
  go_enter Tryz.func25, Tryz.ntmps25
  go_wp2
  go_ret
  exact ⟨rfl, rfl⟩
theorem flat_one (l : List (ByteArray × Int)) : ∀ u ∈ flat l, u.oneCell' = true := by
  intro u hu
  unfold flat at hu
  obtain ⟨a, _, h⟩ := List.mem_flatMap.1 hu
  simp at h
  rcases h with rfl | rfl <;> rfl
theorem infoA : (Tryz.prog.info? 31).map (fun i => (i.zero, i.size, i.bytes)) = some (some (.agg #[.string ByteArray.empty, .int .u8 0]), 2, 24) := by kernel_rfl
theorem SV.empty {w : World} {g base size : Nat} {t : TypeId} (h : Blk w g #[] t) (hb : base ≤ g) : SV w base size (.slice (some ⟨g, 0, none⟩) 0 0) 0 [] :=
  ⟨by simp, .inr ⟨g, 0, 0, rfl, hb, h.lt, by omega, by decide, by simp, by simp, fun j => h.free j⟩⟩
theorem clone_any (base : Nat) (sv : Value) (l : List (ByteArray × Int)) (w : World) (h : SV w base 2 sv l.length (flat l)) (hn : l.length ≤ 4096) :
    Calls Tryz.prog 22 #[sv] w fun e w' => ∃ v', e = .returned v' ∧ SV w' w.heap.size 2 v' l.length (flat l) ∧ Fr [] w w' := by
  have hnil : ∀ (W : World) (a : Option Addr) (n c : Nat), (binOp .eql 22 (.slice a n c) (.slice none 0 0)).run Tryz.prog W = .ok (.bool a.isNone) W := fun W a n c => Lib.run_eql_slice_nil W _ _ a n c 0 0 Tryz.underlying22
  rcases h.2 with ⟨rfl, h0⟩ | ⟨g, o, c, rfl, g1, g2, g3, g4, g5, _⟩
  · have hl : l = [] := List.length_eq_zero_iff.1 h0
    subst hl
    go_enter Tryz.func22, Tryz.ntmps22
    go_wp2
    go_ret
    exact ⟨_, rfl, SV.nil _ _ _, Fr.refl _ _⟩
  · obtain ⟨i0, hi0, hz0, hz1, hz2⟩ := info_parts infoA
    have hg5 : ∀ j u, (flat l)[j]? = some u → (w.alloc (.cells #[] 31)).cell? ((⟨g, o, none⟩ : Addr).add j) = some u := fun j u hj => by
      have e : (⟨g, o, none⟩ : Addr).add j = ⟨g, o + j, none⟩ := by unfold Addr.add; split <;> simp_all
      rw [e, World.cell?_of_block (a := ⟨g, o + j, none⟩) (Below.heap_alloc w _ g g2)]
      exact g5 j u hj
    go_enter Tryz.func22, Tryz.ntmps22
    go_wp2_with (at_builtin; (refine wpList_append_sv _ rfl _ _ 22 rfl 31 i0 (.agg #[.string ByteArray.empty, .int .u8 0]) 2 24 Tryz.underlying22 hi0 hz0 hz1 hz2 rfl (by decide) w.heap.size _ 0 [] rfl (SV.empty (Blk.new _ _ _) (Nat.le_refl _)) ?_ ⟨g, o, none⟩ l.length c (flat l) rfl (flat_len l) hg5 (flat_one l) ?_ ?_ ?_); (focus (simp)); (focus (unfold maxLen; omega)); (focus omega); intro v4 w4 hS4 hF4)
    go_ret
    simp only [Nat.zero_add, List.nil_append] at hS4
    refine ⟨_, rfl, hS4, ?_⟩
    have hF5 : Fr (Value.slice (some ⟨w.heap.size, 0, none⟩) 0 0).ownBlock.toList (w.alloc (.cells #[] 31)) w4 := hF4
    exact (((Fr.refl [] w).alloc _).mono (by simp)).trans hF5 |>.weaken (by intro z hz; right; simp [Value.ownBlock] at hz; omega)
theorem all_any (bv base : Nat) (l : List (ByteArray × Int)) (w : World) (h : VW w base bv l) :
    Calls Tryz.prog 27 #[.pointer (some ⟨bv, 0, none⟩)] w fun e w' => ∃ v', e = .returned v' ∧ SV w' w.heap.size 2 v' l.length (flat l) ∧ Fr [] w w' := by
  obtain ⟨⟨sv, mv, h1, h2, h3⟩, h4, h5⟩ := h
  have hc := h1.cell
  have hl := h1.lt
  go_enter Tryz.func27, Tryz.ntmps27
  go_wp2_with ((go_at_call 22); (with_reducible refine (clone_any base sv l _ h2 h5).mono ?_); rintro e w1 ⟨v', rfl, hS, hF⟩)
  go_ret
  exact ⟨_, rfl, hS, hF⟩
end Go.Proofs.YtbbnafnnbhbbcaaGreatDoor
