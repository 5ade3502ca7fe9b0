/- The package feed: a whole operation. -/
import Derived.Test.YthkmknnajbpjfaaDoorSm
import Derived.Test.YthkmknnajbpjfaaDoorQueue
namespace Go.Proofs.YthkmknnajbpjfaaDoor
open Go.RowKit
set_option maxRecDepth 100000
set_option linter.unusedVariables false
set_option linter.unusedSimpArgs false
set_option maxHeartbeats 2000000
theorem w64z {n : Int} (h0 : 0 ≤ n) (h1 : n < 18446744073709551616) : M.w64 (n + 0) = n := by rw [Int.add_zero]; exact M.w64_in h0 h1
/-- Step does what the plain mathematics says. -/
theorem step_model (bf bc bw bp size : Nat) (l : List Int) (p : M.Pn) (w : World) (h : Fd w bf bc bw size l) (q : PM w bp bf size p) (hw : M.Words l) (hd : p.dn = false) :
    Calls Tryd.prog 12 #[.pointer (some ⟨bp, 0, none⟩)] w fun e w' => (∃ v, e = .returned v) ∧ GG bf bc bw bp size (M.step size l p).1 (M.step size l p).2.1 w' ∧ Fr [bp, bw] w w' := by
  obtain ⟨k, x, ph, pl, sv, dn, aAt, aX, why⟩ := p
  have ok := q.ok
  have okpl : 0 ≤ pl ∧ pl < 18446744073709551616 := ok.pl
  have okk : k = 1 ∨ k = 2 ∨ k = 3 := ok.k
  have okph : ph ≤ 4 := ok.ph
  have okp3 : k = 3 → ph ≤ 1 := ok.ph3
  have e0 : dn = false := hd
  subst e0
  rcases okk with rfl | rfl | rfl
  · have hc : ph = 0 ∨ ph = 1 ∨ ph = 2 ∨ ph = 3 ∨ ph = 4 := by omega
    rcases hc with rfl | rfl | rfl | rfl | rfl
    · have := sm_look_put bf bc bw bp size l x pl sv aAt aX why w h q hw
      simpa [M.step, M.ecell] using this
    · have e2 : M.w64 pl = pl := M.w64_in okpl.1 okpl.2
      obtain ⟨s, hs⟩ : ∃ s, s = l.getD (M.tcell size pl) 0 := ⟨_, rfl⟩
      rcases Int.lt_trichotomy s pl with hlt | heq | hgt
      · have := sm_wait_put_lt bf bc bw bp size l x pl sv aAt aX why w h q hw (hs ▸ hlt)
        simp only [M.step, M.far]
        rw [← hs]
        simpa [e2, hlt] using this
      · have := sm_wait_put_eq bf bc bw bp size l x pl sv aAt aX why w h q hw (hs ▸ heq)
        simp only [M.step, M.far]
        rw [← hs]
        have n1 : ¬ s < pl := by omega
        have n2 : ¬ pl < s := by omega
        simpa [e2, n1, n2] using this
      · have := sm_wait_put_gt bf bc bw bp size l x pl sv aAt aX why w h q hw (hs ▸ hgt)
        simp only [M.step, M.far]
        rw [← hs]
        have n1 : ¬ s < pl := by omega
        simpa [e2, n1, hgt] using this
    · obtain ⟨s, hs⟩ : ∃ s, s = l.getD 0 0 := ⟨_, rfl⟩
      by_cases e : s = pl
      · have := sm_move_put_hit bf bc bw bp size l x pl sv aAt aX why w h q hw (hs ▸ e)
        simp only [M.step, M.ecell, if_true]
        rw [← hs]
        simpa [e] using this
      · have := sm_move_put_miss bf bc bw bp size l x pl sv aAt aX why w h q hw (hs ▸ e)
        simp only [M.step, M.ecell, if_true]
        rw [← hs]
        simpa [e] using this
    · have := sm_put bf bc bw bp size l x pl sv aAt aX why w h q hw
      simpa [M.step] using this
    · have := sm_last_put bf bc bw bp size l x pl sv aAt aX why w h q hw
      simpa [M.step, M.lastv, M.lastx] using this
  · have hc : ph = 0 ∨ ph = 1 ∨ ph = 2 ∨ ph = 3 ∨ ph = 4 := by omega
    rcases hc with rfl | rfl | rfl | rfl | rfl
    · have := sm_look_take bf bc bw bp size l x pl sv aAt aX why w h q hw
      simpa [M.step, M.ecell] using this
    · obtain ⟨t, ht⟩ : ∃ t, t = M.w64 (pl + 1) := ⟨_, rfl⟩
      obtain ⟨s, hs⟩ : ∃ s, s = l.getD (M.tcell size pl) 0 := ⟨_, rfl⟩
      rcases Int.lt_trichotomy s t with hlt | heq | hgt
      · have := sm_wait_take_lt bf bc bw bp size l x pl sv aAt aX why w h q hw (hs ▸ ht ▸ hlt)
        simp only [M.step, M.far]
        rw [← hs]
        simpa [← ht, hlt] using this
      · have := sm_wait_take_eq bf bc bw bp size l x pl sv aAt aX why w h q hw (hs ▸ ht ▸ heq)
        simp only [M.step, M.far]
        rw [← hs]
        have n1 : ¬ s < t := by omega
        have n2 : ¬ t < s := by omega
        simpa [← ht, n1, n2] using this
      · have := sm_wait_take_gt bf bc bw bp size l x pl sv aAt aX why w h q hw (hs ▸ ht ▸ hgt)
        simp only [M.step, M.far]
        rw [← hs]
        have n1 : ¬ s < t := by omega
        simpa [← ht, n1, hgt] using this
    · obtain ⟨s, hs⟩ : ∃ s, s = l.getD 1 0 := ⟨_, rfl⟩
      by_cases e : s = pl
      · have := sm_move_take_hit bf bc bw bp size l x pl sv aAt aX why w h q hw (hs ▸ e)
        simp only [M.step, M.ecell]
        simp only [show ¬ (2 : Int) = 1 by decide, if_false]
        rw [← hs]
        simpa [e] using this
      · have := sm_move_take_miss bf bc bw bp size l x pl sv aAt aX why w h q hw (hs ▸ e)
        simp only [M.step, M.ecell]
        simp only [show ¬ (2 : Int) = 1 by decide, if_false]
        rw [← hs]
        simpa [e] using this
    · have := sm_take bf bc bw bp size l x pl sv aAt aX why w h q hw
      simpa [M.step] using this
    · have := sm_last_take bf bc bw bp size l x pl sv aAt aX why w h q hw
      simpa [M.step, M.lastv, M.lastx] using this
  · have hc : ph = 0 ∨ ph = 1 := by omega
    rcases hc with rfl | rfl
    · have := sm_count bf bc bw bp size l x pl sv aAt aX why w h q hw
      simpa [M.step] using this
    · obtain ⟨d, hdd⟩ : ∃ d, d = M.w64 (l.getD 0 0 - pl) := ⟨_, rfl⟩
      by_cases e : d ≤ (size : Int)
      · have := sm_count1_lo bf bc bw bp size l x pl sv aAt aX why w h q hw (hdd ▸ e)
        rw [← hdd] at this
        have hm : min d (size : Int) = d := by omega
        simp only [M.step]
        rw [← hdd, hm]
        simpa using this
      · have := sm_count1_hi bf bc bw bp size l x pl sv aAt aX why w h q hw (hdd ▸ by omega)
        have hm : min d (size : Int) = size := by omega
        simp only [M.step]
        rw [← hdd, hm]
        simpa using this
end Go.Proofs.YthkmknnajbpjfaaDoor
