/- The reference's names. -/
import Derived.Test.YtbbnafnnbhbbcaaGreatDoorGrow
namespace Go.Proofs.YtbbnafnnbhbbcaaGreatDoor
open Go.RowKit
set_option maxRecDepth 100000
set_option linter.unusedVariables false
set_option linter.unusedSimpArgs false
set_option maxHeartbeats 2000000
theorem rletter_any (c : Int) (w : World) :
    Calls Tryz.prog 37 #[.int .u8 c] w fun e w' => e = .returned (.bool (letterF c)) ∧ w = w' := by
  unfold letterF
  go_enter Tryz.func37, Tryz.ntmps37
  go_wp2
  all_goals go_ret
  all_goals (refine ⟨congrArg (fun b => Ending.returned (Value.bool b)) ?_, rfl⟩; rw [Bool.eq_iff_iff]; (try simp); (try omega))
def digitF (c : Int) : Bool := decide (48 ≤ c) && decide (c ≤ 57)
theorem rdigit_any (c : Int) (w : World) :
    Calls Tryz.prog 38 #[.int .u8 c] w fun e w' => e = .returned (.bool (digitF c)) ∧ w = w' := by
  unfold digitF
  go_enter Tryz.func38, Tryz.ntmps38
  go_wp2
  all_goals go_ret
  all_goals (refine ⟨congrArg (fun b => Ending.returned (Value.bool b)) ?_, rfl⟩; rw [Bool.eq_iff_iff]; (try simp); (try omega))
theorem namedF_or (c : Int) : namedF c = (letterF c || digitF c) := rfl
theorem rname_any (s : ByteArray) (w : World) :
    Calls Tryz.prog 17 #[.string s] w fun e w' => e = .returned (.bool (nameF s)) ∧ w = w' := by
  by_cases h1 : s.size < 1
  · have e : nameF s = false := by unfold nameF; simp; omega
    rw [e]
    go_enter Tryz.func17, Tryz.ntmps17
    go_wp2
    go_ret
    exact ⟨rfl, rfl⟩
  · by_cases h2 : 64 < s.size
    · have e : nameF s = false := by unfold nameF; simp; omega
      rw [e]
      go_enter Tryz.func17, Tryz.ntmps17
      go_wp2
      go_ret
      exact ⟨rfl, rfl⟩
    · have h0 : 0 < s.size := by omega
      have g0 : gb s 0 = (s[0].toNat : Int) := by simp [gb, h0]
      have d1 : decide (1 ≤ s.size) = true := by simp; omega
      have d2 : decide (s.size ≤ 64) = true := by simp; omega
      have d3 : decide ((s.size : Int) < 1) = false := by simp; omega
      have d4 : decide (64 < (s.size : Int)) = false := by simp; omega
      by_cases hl : letterF (s[0].toNat : Int) = true
      · have e : nameF s = upto s s.size := by unfold nameF; rw [d1, d2, g0, hl]; rfl
        rw [e]
        clear e
        go_enter Tryz.func17, Tryz.ntmps17
        go_wp2_with ((go_at_call 37); (with_reducible refine (rletter_any _ _).mono ?_); rintro e w1 ⟨rfl, rfl⟩)
        go_loopw [3] (fun v wr => ∃ i : Nat, i ≤ s.size ∧ v = .int .i64 i ∧ upto s i = true ∧ w = wr) (fun v _ => s.size - (intOf v).toNat)
        case atStart => exact ⟨0, by omega, rfl, rfl, rfl⟩
        case round =>
          obtain ⟨i, hi, rfl, hu, rfl⟩ := hrel
          by_cases hlt : i < s.size
          · have gi : gb s i = (s[i].toNat : Int) := by simp [gb, hlt]
            by_cases hn : namedF (s[i].toNat : Int) = true
            · have hn' := hn
              rw [namedF_or, Bool.or_eq_true] at hn'
              by_cases hL : letterF (s[i].toNat : Int) = true
              · have HL := Lib.hid hL
                clear hL hn'
                go_wp2_with ((go_at_call 37); (with_reducible refine (rletter_any _ _).mono ?_); rintro e w1 ⟨rfl, rfl⟩; have hL := HL.out)
                go_roundw
                case rel => exact ⟨i + 1, by omega, by go_num, by rw [upto_succ, hu, gi, hn]; rfl, trivial⟩
                case measure => simp [intOf]; omega
              · have hD : digitF (s[i].toNat : Int) = true := hn'.resolve_left hL
                have hL' : letterF (s[i].toNat : Int) = false := by simpa using hL
                clear hL hn'
                go_wp2_with (first | ((go_at_call 37); (with_reducible refine (rletter_any _ _).mono ?_); rintro e w1 ⟨rfl, rfl⟩) | ((go_at_call 38); (with_reducible refine (rdigit_any _ _).mono ?_); rintro e w1 ⟨rfl, rfl⟩))
                go_roundw
                case rel => exact ⟨i + 1, by omega, by go_num, by rw [upto_succ, hu, gi, hn]; rfl, trivial⟩
                case measure => simp [intOf]; omega
            · have hn' : namedF (s[i].toNat : Int) = false := by simpa using hn
              have e := upto_fail s s.size i hlt (by rw [gi]; exact hn')
              have hn2 := hn'
              rw [namedF_or, Bool.or_eq_false_iff] at hn2
              obtain ⟨hL', hD⟩ := hn2
              go_wp2_with (first | ((go_at_call 37); (with_reducible refine (rletter_any _ _).mono ?_); rintro e w1 ⟨rfl, rfl⟩) | ((go_at_call 38); (with_reducible refine (rdigit_any _ _).mono ?_); rintro e w1 ⟨rfl, rfl⟩))
              go_ret
              exact ⟨by rw [e]; rfl, rfl⟩
          · obtain rfl : i = s.size := by omega
            go_wp2
            go_ret
            exact ⟨by rw [hu]; rfl, rfl⟩
      · have hl' : letterF (s[0].toNat : Int) = false := by simpa using hl
        have e : nameF s = false := by unfold nameF; rw [d1, d2, g0, hl']; rfl
        rw [e]
        go_enter Tryz.func17, Tryz.ntmps17
        go_wp2_with ((go_at_call 37); (with_reducible refine (rletter_any _ _).mono ?_); rintro e w1 ⟨rfl, rfl⟩)
        go_ret
        exact ⟨rfl, rfl⟩
end Go.Proofs.YtbbnafnnbhbbcaaGreatDoor
