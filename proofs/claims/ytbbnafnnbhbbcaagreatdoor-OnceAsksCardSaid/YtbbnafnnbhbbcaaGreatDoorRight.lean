/- Which asks are right. -/
import Derived.Test.YtbbnafnnbhbbcaaGreatDoorName
namespace Go.Proofs.YtbbnafnnbhbbcaaGreatDoor
open Go.RowKit
set_option maxRecDepth 100000
set_option linter.unusedVariables false
set_option linter.unusedSimpArgs false
set_option maxHeartbeats 2000000
def rightF (s : ByteArray) (k : Int) : Int := if nameF s then (if k ≤ 0 ∨ 6 ≤ k then 132 else 0) else 131
theorem right_any (s : ByteArray) (k : Int) (w : World) :
    Calls Tryz.prog 18 #[.agg #[.string s, .int .u8 k]] w fun e w' => e = .returned (.int .i64 (rightF s k)) ∧ Fr [] w w' := by
  have hB := Blk.new w #[.string s, .int .u8 k] 31
  have hF : Fr [] w (w.alloc (.cells #[.string s, .int .u8 k] 31)) := (Fr.refl _ _).alloc _
  by_cases hn : nameF s = true
  · by_cases h0 : k ≤ 0
    · have e : rightF s k = 132 := by unfold rightF; rw [if_pos hn, if_pos (.inl h0)]
      go_enter Tryz.func18, Tryz.ntmps18
      go_wp2_with ((go_at_call 39); (with_reducible refine (name_any _ _).mono ?_); rintro e w1 ⟨rfl, rfl⟩)
      go_ret
      exact ⟨by rw [e]; rfl, hF⟩
    · by_cases h6 : 6 ≤ k
      · have e : rightF s k = 132 := by unfold rightF; rw [if_pos hn, if_pos (.inr h6)]
        go_enter Tryz.func18, Tryz.ntmps18
        go_wp2_with ((go_at_call 39); (with_reducible refine (name_any _ _).mono ?_); rintro e w1 ⟨rfl, rfl⟩)
        go_ret
        exact ⟨by rw [e]; rfl, hF⟩
      · have e : rightF s k = 0 := by unfold rightF; rw [if_pos hn, if_neg (by omega)]
        go_enter Tryz.func18, Tryz.ntmps18
        go_wp2_with ((go_at_call 39); (with_reducible refine (name_any _ _).mono ?_); rintro e w1 ⟨rfl, rfl⟩)
        go_ret
        exact ⟨by rw [e]; rfl, hF⟩
  · have hn' : nameF s = false := by simpa using hn
    have e : rightF s k = 131 := by unfold rightF; rw [if_neg hn]
    go_enter Tryz.func18, Tryz.ntmps18
    go_wp2_with ((go_at_call 39); (with_reducible refine (name_any _ _).mono ?_); rintro e w1 ⟨rfl, rfl⟩)
    go_ret
    exact ⟨by rw [e]; rfl, hF⟩
end Go.Proofs.YtbbnafnnbhbbcaaGreatDoor
