/- The package labels: which texts may be names. -/
import Derived.Test.YtanbfejhhnhabaaRows
import Derived.Test.YtanbfejhhnhabaaFr
namespace Go.Proofs.Ytanbfejhhnhabaa
open Go.RowKit
set_option maxRecDepth 100000
set_option linter.unusedVariables false
set_option linter.unusedSimpArgs false
set_option maxHeartbeats 2000000
def letterF (c : Int) : Bool := (decide (97 ≤ c) && decide (c ≤ 122)) || (decide (65 ≤ c) && decide (c ≤ 90)) || (c == 95)
def namedF (c : Int) : Bool := letterF c || (decide (48 ≤ c) && decide (c ≤ 57))
theorem letter_any (c : Int) (w : World) :
    Calls Try.prog 52 #[.int .u8 c] w fun e w' => e = .returned (.bool (letterF c)) ∧ w = w' := by
  unfold letterF
  go_enter Try.func52, Try.ntmps52
  go_wp2
  all_goals go_ret
  all_goals (refine ⟨congrArg (fun b => Ending.returned (Value.bool b)) ?_, rfl⟩; rw [Bool.eq_iff_iff]; (try simp); (try omega))
theorem named_any (c : Int) (w : World) :
    Calls Try.prog 53 #[.int .u8 c] w fun e w' => e = .returned (.bool (namedF c)) ∧ w = w' := by
  unfold namedF
  go_enter Try.func53, Try.ntmps53
  go_wp2_with ((go_at_call 52); (with_reducible refine (letter_any c _).mono ?_); rintro e w1 ⟨rfl, rfl⟩)
  all_goals go_ret
  all_goals (refine ⟨congrArg (fun b => Ending.returned (Value.bool b)) ?_, rfl⟩; rw [Bool.eq_iff_iff]; simp_all; try omega)
/-- A text's byte. -/
def gb (s : ByteArray) (i : Nat) : Int := if h : i < s.size then (s[i].toNat : Int) else 0
def upto (s : ByteArray) (n : Nat) : Bool := (List.range n).all (fun i => namedF (gb s i))
theorem upto_succ (s : ByteArray) (n : Nat) : upto s (n + 1) = (upto s n && namedF (gb s n)) := by simp [upto, List.range_succ]
/-- A text that fails at a byte fails. -/
theorem upto_fail (s : ByteArray) (n i : Nat) (h : i < n) (hf : namedF (gb s i) = false) : upto s n = false := by
  unfold upto
  rw [List.all_eq_false]
  exact ⟨i, List.mem_range.2 h, by simp [hf]⟩
/-- Which texts may be names. -/
def nameF (s : ByteArray) : Bool := decide (1 ≤ s.size) && decide (s.size ≤ 64) && letterF (gb s 0) && upto s s.size
theorem name_any (s : ByteArray) (w : World) :
    Calls Try.prog 31 #[.string s] w fun e w' => e = .returned (.bool (nameF s)) ∧ w = w' := by
  by_cases h1 : s.size < 1
  · have e : nameF s = false := by unfold nameF; simp; omega
    rw [e]
    go_enter Try.func31, Try.ntmps31
    go_wp2
    go_ret
    exact ⟨rfl, rfl⟩
  · by_cases h2 : 64 < s.size
    · have e : nameF s = false := by unfold nameF; simp; omega
      rw [e]
      go_enter Try.func31, Try.ntmps31
      go_wp2
      go_ret
      exact ⟨rfl, rfl⟩
    · have h0 : 0 < s.size := by omega
      have g0 : gb s 0 = (s[0].toNat : Int) := by simp [gb, h0]
      have d1 : decide (1 ≤ s.size) = true := by simp; omega
      have d2 : decide (s.size ≤ 64) = true := by simp; omega
      have d3 : decide ((s.size : Int) < 1) = false := by simp; omega
      have d4 : decide (64 < (s.size : Int)) = false := by simp; omega
      by_cases hl : letterF (s[0].toNat : Int) = true
      · have e : nameF s = upto s s.size := by unfold nameF; rw [d1, d2, g0, hl]; rfl
        rw [e]
        clear e
        go_enter Try.func31, Try.ntmps31
        go_wp2_with ((go_at_call 52); (with_reducible refine (letter_any _ _).mono ?_); rintro e w1 ⟨rfl, rfl⟩)
        go_loopw [20] (fun v wr => ∃ i : Nat, i ≤ s.size ∧ v = .int .i64 i ∧ upto s i = true ∧ w = wr) (fun v _ => s.size - (intOf v).toNat)
        case atStart => exact ⟨0, by omega, rfl, rfl, rfl⟩
        case round =>
          obtain ⟨i, hi, rfl, hu, rfl⟩ := hrel
          by_cases hlt : i < s.size
          · have gi : gb s i = (s[i].toNat : Int) := by simp [gb, hlt]
            by_cases hn : namedF (s[i].toNat : Int) = true
            · go_wp2_with ((go_at_call 53); (with_reducible refine (named_any _ _).mono ?_); rintro e w1 ⟨rfl, rfl⟩)
              go_roundw
              case rel => exact ⟨i + 1, by omega, by go_num, by rw [upto_succ, hu, gi, hn]; rfl, trivial⟩
              case measure => simp [intOf]; omega
            · have hn' : namedF (s[i].toNat : Int) = false := by simpa using hn
              have e := upto_fail s s.size i hlt (by rw [gi]; exact hn')
              go_wp2_with ((go_at_call 53); (with_reducible refine (named_any _ _).mono ?_); rintro e w1 ⟨rfl, rfl⟩)
              go_ret
              exact ⟨by rw [e]; rfl, rfl⟩
          · obtain rfl : i = s.size := by omega
            go_wp2
            go_ret
            exact ⟨by rw [hu]; rfl, rfl⟩
      · have hl' : letterF (s[0].toNat : Int) = false := by simpa using hl
        have e : nameF s = false := by unfold nameF; rw [d1, d2, g0, hl']; rfl
        rw [e]
        go_enter Try.func31, Try.ntmps31
        go_wp2_with ((go_at_call 52); (with_reducible refine (letter_any _ _).mono ?_); rintro e w1 ⟨rfl, rfl⟩)
        go_ret
        exact ⟨rfl, rfl⟩
end Go.Proofs.Ytanbfejhhnhabaa
