/- maps.Copy, from names to places, into an empty map of the call's own. -/
import Derived.Test.YtbbnafnnbhbbcaaGreatDoorMap
import Derived.Maps.RangeWalk
import Derived.Maps.Ext
import Derived.Sort.MapsRangeIn
namespace Go.Proofs.YtbbnafnnbhbbcaaGreatDoor
open Go.RowKit Go.Maps
set_option maxRecDepth 100000
set_option linter.unusedVariables false
set_option linter.unusedSimpArgs false
set_option maxHeartbeats 4000000
theorem Fr.of_grown1 {w w' : World} {b : Nat} (h : w.grownBy w' (some b)) : Fr [b] w w' := ⟨h.os, h.tape, h.output, h.size, fun k hk hs => h.block k hk (fun e => hs (by simp [Option.some.inj e]))⟩
theorem copy_any (b bd n : Nat) (D : DataW Unit) (w : World) (hown : w.ownsMap Tryz.prog 9 ME b n D) (hdst : w.ownsMap Tryz.prog 9 ME bd 0 (.map [])) (hne : b ≠ bd) (hn : n < maxLen) :
    Calls Tryz.prog 23 #[.map (some bd), .map (some b)] w fun e w' => e = .returned (.tuple #[]) ∧ w'.ownsMap Tryz.prog 9 ME bd n D ∧ Fr [bd] w w' := by
  have hbl := hown.lt
  have hdl := hdst.lt
  have hsz := hown.size_le
  go_enter Tryz.func23, Tryz.ntmps23
  go_wp2_with (first | (at_range; refine wpList_range_own _ rfl _ 77 rfl 9 3 mlaw Tryz.underlying77 _ b n _ rfl hown ?_; intro w0 hrg0 hg0 hs0) | go_in)
  go_frame
  go_loopw [4, 5] (fun _ _ wr => ∃ (left : Lit → Bool) (cnt : Nat) (Dout : DataW Unit), wr.ranges Tryz.prog 9 ME b w.heap.size n D left cnt ∧ cnt ≤ Maps.size D ∧
      wr.ownsMap Tryz.prog 9 ME bd (Maps.size D - cnt) Dout ∧ Agree Dout D left ∧ w.grownBy wr (some bd))
    (fun _ _ wr => wr.rangeLeft b w.heap.size)
  case atStart => exact ⟨_, _, .map [], hrg0, Nat.le_refl _, (hdst.kept hg0 (by simp)).mono (Nat.zero_le _), agree_start D, hg0.but _⟩
  case round =>
    obtain ⟨left, cnt, Dout, hrg, hcs, hout, hA, hgw⟩ := hrel
    go_wp2_with (first | (at_next; refine wpList_next_ranges _ rfl _ rfl 9 mlaw ME Value.string (Value.int .i64) (fun key kl hkey => keyOf_string_inv Tryz.underlying9 hkey) (fun v y hv => (plainElem_int_inv Tryz.underlying3 hv).imp fun c h => h.1) b w.heap.size n _ _ _ rfl hrg ?_ ?_) | go_in)
    · intro hc0 hl0
      go_wp2
      first | go_end0 | refine bodyPost_ret (results_none rfl _ _ _) rfl ?_
      subst hc0
      have e := agree_end hA hl0 (hout.canon mlaw) (hown.canon mlaw)
      subst e
      exact ⟨rfl, hout.mono (by omega), Fr.of_grown1 hgw⟩
    · intro x c kl y1 y2 w1 cnt1 hkey hlx hv hat hrg1 hlt hg1 hs1 hen
      have hout1 := hout.kept hg1 (by simp; omega)
      go_wp2_with (first | (at_mapUpdate; refine wpList_mapUpdate_own _ rfl _ _ _ 77 rfl 9 3 mlaw Tryz.underlying77 _ bd _ _ rfl hout1 (by omega) _ _ _ rfl rfl hkey _ _ hv ?_; intro w2 hout2 hg2; go_frame) | go_in)
      have hrg2 := hrg1.kept hg2 (fun e => by have := Option.some.inj e; omega) (fun e => by have := Option.some.inj e; omega)
      go_roundw
      case rel =>
        exact ⟨_, cnt1, _, hrg2, by omega, hout2.mono (by omega), agree_step hA hout.isMap (mlaw.key hkey) hat,
          (hgw.andThen hg1 (fun j hj => by cases hj; exact Or.inl (Nat.le_refl _))).andThen hg2 (fun j hj => by cases hj; exact Or.inr rfl)⟩
      case measure => rw [hrg2.left_eq, hrg.left_eq]; exact hlt
theorem copy_nil (bd : Nat) (w : World) :
    Calls Tryz.prog 23 #[.map (some bd), .map none] w fun e w' => e = .returned (.tuple #[]) ∧ Fr [] w w' := by
  have hrg := run_range_nilMap (P := Tryz.prog) w 77 9 3 Tryz.underlying77
  have hnx : ∀ ty, (Instr.next (.pointer (some ⟨w.heap.size, 0, none⟩)) false ty).run Tryz.prog (w.alloc (.mapIter none 0 #[] 0)) = _ := fun ty => run_next_nilMap w ty 0 0 #[]
  go_enter Tryz.func23, Tryz.ntmps23
  go_wp2
  refine wp_loop_rounds 1 ?_
  rw [rounds_succ]
  go_wp2
  first | go_end0 | refine bodyPost_ret (results_none rfl _ _ _) rfl ?_
  exact ⟨rfl, (Fr.refl _ _).alloc _⟩
end Go.Proofs.YtbbnafnnbhbbcaaGreatDoor
