/- slices.Clone at counts, changes, pushes. -/
import Derived.Test.YtmilnhicmeblhaaDi
namespace Go.Proofs.Ytmilnhicmeblhaa
open Go.RowKit
set_option maxRecDepth 100000
set_option linter.unusedVariables false
set_option linter.unusedSimpArgs false
set_option maxHeartbeats 4000000
theorem infoP : (Try.prog.info? 50).map (fun i => (i.zero, i.size, i.bytes)) = some (some (.agg #[.string ByteArray.empty, .int .u64 0, .slice none 0 0]), 3, 48) := by kernel_rfl
theorem SV.empty {w : World} {g base size : Nat} {t : TypeId} (h : Blk w g #[] t) (hb : base ≤ g) : SV w base size (.slice (some ⟨g, 0, none⟩) 0 0) 0 [] :=
  ⟨by simp, .inr ⟨g, 0, 0, rfl, hb, h.lt, by omega, by decide, by simp, by simp, fun j => h.free j⟩⟩
theorem flat2_one (l : List Ct) : ∀ u ∈ flat2 l, u.oneCell' = true := by
  intro u hu
  obtain ⟨a, _, ha⟩ := List.mem_flatMap.1 hu
  simp at ha
  rcases ha with rfl | rfl <;> rfl
theorem flat4_one (l : List Ch) : ∀ u ∈ flat4 l, u.oneCell' = true := by
  intro u hu
  obtain ⟨a, _, ha⟩ := List.mem_flatMap.1 hu
  simp at ha
  rcases ha with rfl | rfl | rfl | rfl <;> rfl
theorem cloneC_any (v : Value) (n : Nat) (xs : List Value) (w : World) (h : RD w 2 v n xs) (h1 : ∀ u ∈ xs, u.oneCell' = true) (hn : n ≤ 1000000) :
    Calls Try.prog 49 #[v] w fun e w' => ∃ v', e = .returned v' ∧ SV w' w.heap.size 2 v' n xs ∧ Fr [] w w' := by
  have hnil : ∀ (W : World) (a : Option Addr) (n c : Nat), (binOp .eql 24 (.slice a n c) (.slice none 0 0)).run Try.prog W = .ok (.bool a.isNone) W := fun W a n c => Lib.run_eql_slice_nil W _ _ a n c 0 0 Try.underlying24
  rcases h.2 with ⟨Ay, cy, rfl, h0, hcy, hAy⟩ | ⟨g, o, c, rfl, g2, g3, g4, g5⟩
  · subst h0
    have hl : xs = [] := List.length_eq_zero_iff.1 (by simpa using h.1)
    subst hl
    rcases Ay with _ | ad
    case some =>
      obtain ⟨i0, hi0, hz0, hz1, hz2⟩ := info_parts infoC
      go_enter Try.func49, Try.ntmps49
      go_wp2_with (at_builtin; (refine wpList_append_sv _ rfl _ _ 24 rfl 38 i0 (ctV ByteArray.empty 0) 2 24 Try.underlying24 hi0 hz0 hz1 hz2 rfl (by decide) w.heap.size _ 0 [] rfl (SV.empty (Blk.new _ _ _) (Nat.le_refl _)) ?_ ad 0 cy [] rfl rfl (by intro j u hj; simp at hj) (by simp) ?_ ?_ ?_); (focus (simp)); (focus (unfold maxLen; omega)); (focus omega); intro v4 w4 hS4 hF4)
      go_ret
      simp only [Nat.zero_add, List.nil_append] at hS4
      refine ⟨_, rfl, hS4, ?_⟩
      have hF5 : Fr (Value.slice (some ⟨w.heap.size, 0, none⟩) 0 0).ownBlock.toList (w.alloc (.cells #[] 38)) w4 := hF4
      exact (((Fr.refl [] w).alloc _).mono (by simp)).trans hF5 |>.weaken (by intro z hz; right; simp [Value.ownBlock] at hz; omega)
    obtain rfl := hAy rfl
    go_enter Try.func49, Try.ntmps49
    go_wp2
    go_ret
    exact ⟨_, rfl, SV.nil _ _ _, Fr.refl _ _⟩
  · obtain ⟨i0, hi0, hz0, hz1, hz2⟩ := info_parts infoC
    have hg5 : ∀ j u, xs[j]? = some u → (w.alloc (.cells #[] 38)).cell? ((⟨g, o, none⟩ : Addr).add j) = some u := fun j u hj => by
      rw [add_none, World.cell?_of_block (a := ⟨g, o + j, none⟩) (Below.heap_alloc w _ g g2)]
      exact g5 j u hj
    have hxl := h.1
    clear g5 h
    go_enter Try.func49, Try.ntmps49
    go_wp2_with (at_builtin; (refine wpList_append_sv _ rfl _ _ 24 rfl 38 i0 (ctV ByteArray.empty 0) 2 24 Try.underlying24 hi0 hz0 hz1 hz2 rfl (by decide) w.heap.size _ 0 [] rfl (SV.empty (Blk.new _ _ _) (Nat.le_refl _)) ?_ ⟨g, o, none⟩ n c xs rfl hxl hg5 h1 ?_ ?_ ?_); (focus (simp)); (focus (unfold maxLen; omega)); (focus omega); intro v4 w4 hS4 hF4)
    go_ret
    simp only [Nat.zero_add, List.nil_append] at hS4
    refine ⟨_, rfl, hS4, ?_⟩
    have hF5 : Fr (Value.slice (some ⟨w.heap.size, 0, none⟩) 0 0).ownBlock.toList (w.alloc (.cells #[] 38)) w4 := hF4
    exact (((Fr.refl [] w).alloc _).mono (by simp)).trans hF5 |>.weaken (by intro z hz; right; simp [Value.ownBlock] at hz; omega)
theorem cloneH_any (v : Value) (n : Nat) (xs : List Value) (w : World) (h : RD w 4 v n xs) (h1 : ∀ u ∈ xs, u.oneCell' = true) (hn : n ≤ 1000000) :
    Calls Try.prog 71 #[v] w fun e w' => ∃ v', e = .returned v' ∧ SV w' w.heap.size 4 v' n xs ∧ Fr [] w w' := by
  have hnil : ∀ (W : World) (a : Option Addr) (n c : Nat), (binOp .eql 26 (.slice a n c) (.slice none 0 0)).run Try.prog W = .ok (.bool a.isNone) W := fun W a n c => Lib.run_eql_slice_nil W _ _ a n c 0 0 Try.underlying26
  rcases h.2 with ⟨Ay, cy, rfl, h0, hcy, hAy⟩ | ⟨g, o, c, rfl, g2, g3, g4, g5⟩
  · subst h0
    have hl : xs = [] := List.length_eq_zero_iff.1 (by simpa using h.1)
    subst hl
    rcases Ay with _ | ad
    case some =>
      obtain ⟨i0, hi0, hz0, hz1, hz2⟩ := info_parts infoH
      go_enter Try.func71, Try.ntmps71
      go_wp2_with (at_builtin; (refine wpList_append_sv _ rfl _ _ 26 rfl 34 i0 (chV ByteArray.empty 0 false false) 4 32 Try.underlying26 hi0 hz0 hz1 hz2 rfl (by decide) w.heap.size _ 0 [] rfl (SV.empty (Blk.new _ _ _) (Nat.le_refl _)) ?_ ad 0 cy [] rfl rfl (by intro j u hj; simp at hj) (by simp) ?_ ?_ ?_); (focus (simp)); (focus (unfold maxLen; omega)); (focus omega); intro v4 w4 hS4 hF4)
      go_ret
      simp only [Nat.zero_add, List.nil_append] at hS4
      refine ⟨_, rfl, hS4, ?_⟩
      have hF5 : Fr (Value.slice (some ⟨w.heap.size, 0, none⟩) 0 0).ownBlock.toList (w.alloc (.cells #[] 34)) w4 := hF4
      exact (((Fr.refl [] w).alloc _).mono (by simp)).trans hF5 |>.weaken (by intro z hz; right; simp [Value.ownBlock] at hz; omega)
    obtain rfl := hAy rfl
    go_enter Try.func71, Try.ntmps71
    go_wp2
    go_ret
    exact ⟨_, rfl, SV.nil _ _ _, Fr.refl _ _⟩
  · obtain ⟨i0, hi0, hz0, hz1, hz2⟩ := info_parts infoH
    have hg5 : ∀ j u, xs[j]? = some u → (w.alloc (.cells #[] 34)).cell? ((⟨g, o, none⟩ : Addr).add j) = some u := fun j u hj => by
      rw [add_none, World.cell?_of_block (a := ⟨g, o + j, none⟩) (Below.heap_alloc w _ g g2)]
      exact g5 j u hj
    have hxl := h.1
    clear g5 h
    go_enter Try.func71, Try.ntmps71
    go_wp2_with (at_builtin; (refine wpList_append_sv _ rfl _ _ 26 rfl 34 i0 (chV ByteArray.empty 0 false false) 4 32 Try.underlying26 hi0 hz0 hz1 hz2 rfl (by decide) w.heap.size _ 0 [] rfl (SV.empty (Blk.new _ _ _) (Nat.le_refl _)) ?_ ⟨g, o, none⟩ n c xs rfl hxl hg5 h1 ?_ ?_ ?_); (focus (simp)); (focus (unfold maxLen; omega)); (focus omega); intro v4 w4 hS4 hF4)
    go_ret
    simp only [Nat.zero_add, List.nil_append] at hS4
    refine ⟨_, rfl, hS4, ?_⟩
    have hF5 : Fr (Value.slice (some ⟨w.heap.size, 0, none⟩) 0 0).ownBlock.toList (w.alloc (.cells #[] 34)) w4 := hF4
    exact (((Fr.refl [] w).alloc _).mono (by simp)).trans hF5 |>.weaken (by intro z hz; right; simp [Value.ownBlock] at hz; omega)
theorem cloneP_any (v : Value) (n : Nat) (xs : List Value) (w : World) (h : RD w 3 v n xs) (h1 : ∀ u ∈ xs, u.oneCell' = true) (hn : n ≤ 1000000) :
    Calls Try.prog 64 #[v] w fun e w' => ∃ v', e = .returned v' ∧ SV w' w.heap.size 3 v' n xs ∧ Fr [] w w' := by
  have hnil : ∀ (W : World) (a : Option Addr) (n c : Nat), (binOp .eql 42 (.slice a n c) (.slice none 0 0)).run Try.prog W = .ok (.bool a.isNone) W := fun W a n c => Lib.run_eql_slice_nil W _ _ a n c 0 0 Try.underlying42
  rcases h.2 with ⟨Ay, cy, rfl, h0, hcy, hAy⟩ | ⟨g, o, c, rfl, g2, g3, g4, g5⟩
  · subst h0
    have hl : xs = [] := List.length_eq_zero_iff.1 (by simpa using h.1)
    subst hl
    rcases Ay with _ | ad
    case some =>
      obtain ⟨i0, hi0, hz0, hz1, hz2⟩ := info_parts infoP
      go_enter Try.func64, Try.ntmps64
      go_wp2_with (at_builtin; (refine wpList_append_sv _ rfl _ _ 42 rfl 50 i0 (.agg #[.string ByteArray.empty, .int .u64 0, .slice none 0 0]) 3 48 Try.underlying42 hi0 hz0 hz1 hz2 rfl (by decide) w.heap.size _ 0 [] rfl (SV.empty (Blk.new _ _ _) (Nat.le_refl _)) ?_ ad 0 cy [] rfl rfl (by intro j u hj; simp at hj) (by simp) ?_ ?_ ?_); (focus (simp)); (focus (unfold maxLen; omega)); (focus omega); intro v4 w4 hS4 hF4)
      go_ret
      simp only [Nat.zero_add, List.nil_append] at hS4
      refine ⟨_, rfl, hS4, ?_⟩
      have hF5 : Fr (Value.slice (some ⟨w.heap.size, 0, none⟩) 0 0).ownBlock.toList (w.alloc (.cells #[] 50)) w4 := hF4
      exact (((Fr.refl [] w).alloc _).mono (by simp)).trans hF5 |>.weaken (by intro z hz; right; simp [Value.ownBlock] at hz; omega)
    obtain rfl := hAy rfl
    go_enter Try.func64, Try.ntmps64
    go_wp2
    go_ret
    exact ⟨_, rfl, SV.nil _ _ _, Fr.refl _ _⟩
  · obtain ⟨i0, hi0, hz0, hz1, hz2⟩ := info_parts infoP
    have hg5 : ∀ j u, xs[j]? = some u → (w.alloc (.cells #[] 50)).cell? ((⟨g, o, none⟩ : Addr).add j) = some u := fun j u hj => by
      rw [add_none, World.cell?_of_block (a := ⟨g, o + j, none⟩) (Below.heap_alloc w _ g g2)]
      exact g5 j u hj
    have hxl := h.1
    clear g5 h
    go_enter Try.func64, Try.ntmps64
    go_wp2_with (at_builtin; (refine wpList_append_sv _ rfl _ _ 42 rfl 50 i0 (.agg #[.string ByteArray.empty, .int .u64 0, .slice none 0 0]) 3 48 Try.underlying42 hi0 hz0 hz1 hz2 rfl (by decide) w.heap.size _ 0 [] rfl (SV.empty (Blk.new _ _ _) (Nat.le_refl _)) ?_ ⟨g, o, none⟩ n c xs rfl hxl hg5 h1 ?_ ?_ ?_); (focus (simp)); (focus (unfold maxLen; omega)); (focus omega); intro v4 w4 hS4 hF4)
    go_ret
    simp only [Nat.zero_add, List.nil_append] at hS4
    refine ⟨_, rfl, hS4, ?_⟩
    have hF5 : Fr (Value.slice (some ⟨w.heap.size, 0, none⟩) 0 0).ownBlock.toList (w.alloc (.cells #[] 50)) w4 := hF4
    exact (((Fr.refl [] w).alloc _).mono (by simp)).trans hF5 |>.weaken (by intro z hz; right; simp [Value.ownBlock] at hz; omega)
end Go.Proofs.Ytmilnhicmeblhaa
