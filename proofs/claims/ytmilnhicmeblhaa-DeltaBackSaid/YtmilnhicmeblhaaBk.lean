/- The law DeltaBack: its walk. -/
import Derived.Test.YtmilnhicmeblhaaSc
namespace Go.Proofs.Ytmilnhicmeblhaa
open Go.RowKit Go.Sort
set_option maxRecDepth 100000
set_option linter.unusedVariables false
set_option linter.unusedSimpArgs false
set_option maxHeartbeats 8000000
theorem deltaBack_walk (va vb : Value) (A B : List Ct) (w : World) (hA : RC w va A) (hB : RC w vb B) (mA : A.length ≤ 9223372036854775806) (mB : B.length ≤ 9223372036854775806) (wa : WC A) (wb : WC B) :
    Calls Try.prog 4 #[va, vb] w fun e w' => e = .returned (.bool true) ∧ Fr [] w w' := by
  obtain ⟨aa, ac, ea⟩ := hA.at_
  obtain ⟨ba, bc, eb⟩ := hB.at_
  subst ea eb
  have HA := Lib.hid hA
  have HB := Lib.hid hB
  clear hA hB
  obtain ⟨d, hd⟩ : ∃ d, (diffE A B).1 = d := ⟨_, rfl⟩
  obtain ⟨y, hy⟩ : ∃ y, (diffE A B).2 = y := ⟨_, rfl⟩
  have HD := Lib.hid hd
  have HY := Lib.hid hy
  by_cases h0 : y = 0
  · subst h0
    obtain ⟨p1, p2, p3⟩ := back_plain wa wb hy
    rw [hd] at p1 p3
    have P1 := Lib.hid p1
    have P2 := Lib.hid p2
    have P3 := Lib.hid p3
    have hdl := (rightH_iff.1 p3).2.2.2
    have hdw := (diffE_right wa wb).2
    rw [hd] at hdw
    have HDW := Lib.hid hdw
    clear p1 p2 p3 hd hy hdw
    go_enter Try.func4, Try.ntmps4
    go_upto_region 6 with (first | ((go_at_call 12); (with_reducible refine (begins_any _).mono ?_); rintro e w1 ⟨rfl, hF1⟩; have HF1 := Lib.hid hF1; clear hF1) | ((go_at_call 13); (with_reducible refine (diff_any _ _ A B _ (HA.out.fr0 HF1.out) (HB.out.fr0 HF1.out) mA mB wa wb).mono ?_); rw [HD.out, HY.out]; rintro e w2 hh; obtain ⟨v, rfl, hS, hF⟩ := hh.case; have HS := Lib.hid hS; have HF2 := Lib.hid (HF1.out.trans hF); obtain ⟨a1, c1, e1⟩ := hS.at_; subst e1; clear hh hS hF))
    go_upto_region 7 with ((go_at_call 16); (with_reducible refine (apply_any _ _ A d _ (HA.out.fr0 HF2.out) HS.out.rd mA (by omega) HDW.out).mono ?_); rw [P1.out]; rintro e w3 hh; obtain ⟨v, rfl, hS, hF⟩ := hh.case; have HS3 := Lib.hid hS; have HF3 := Lib.hid (HF2.out.trans hF); have HD3 := Lib.hid (HS.out.fr0 hF); obtain ⟨a3, c3, e3⟩ := hS.at_; subst e3; clear hh hS hF)
    go_upto_region 8 with ((go_at_call 13); (with_reducible refine (diff_any _ _ A A _ (HA.out.fr0 HF3.out) (HA.out.fr0 HF3.out) mA mA wa wa).mono ?_); rw [P2.out]; rintro e w4 hh; obtain ⟨v, rfl, hS, hF⟩ := hh.case; have HS4 := Lib.hid (HS3.out.fr0 hF); have HD4 := Lib.hid (HD3.out.fr0 hF); have HF4 := Lib.hid (HF3.out.trans hF); obtain ⟨a4, c4, e4⟩ := hS.at_; subst e4; clear hh hS hF)
    go_wp2_with (first | ((go_at_call 17); (with_reducible refine (sameC_true _ _ B _ HS4.out.rd (HB.out.fr0 HF4.out) mB).mono ?_); rintro e w5 ⟨rfl, hF⟩; have HF5 := Lib.hid hF; clear hF) | ((go_at_call 18); (with_reducible refine (rightH_any _ d _ (HD4.out.rd.fr0 HF5.out) (by omega)).mono ?_); rw [P3.out]; rintro e w6 ⟨rfl, hF⟩; have HF6 := Lib.hid hF; clear hF))
    go_ret
    exact ⟨rfl, (HF4.out.trans HF5.out).trans HF6.out⟩
  · have hno := diffE_no (a := A) (b := B) (by rw [hy]; exact h0)
    rw [hd, hy] at hno
    obtain ⟨rfl, hno⟩ := hno
    have hyb : (y == 0) = false := by simpa using h0
    have h3 : y = 3 ∨ (y ≠ 3 ∧ rightC A = false) ∨ (y ≠ 3 ∧ rightC A = true ∧ rightC B = false) := by
      by_cases h3 : y = 3
      · exact .inl h3
      · right
        cases ha : rightC A with
        | false => exact .inl ⟨h3, rfl⟩
        | true =>
          right
          refine ⟨h3, rfl, ?_⟩
          rcases hno with h | h | h
          · exact absurd h h3
          · rw [ha] at h; cases h
          · exact h
    clear hno hd hy
    go_enter Try.func4, Try.ntmps4
    go_upto_region 5 with (first | ((go_at_call 12); (with_reducible refine (begins_any _).mono ?_); rintro e w1 ⟨rfl, hF1⟩; have HF1 := Lib.hid hF1; clear hF1) | ((go_at_call 13); (with_reducible refine (diff_any _ _ A B _ (HA.out.fr0 HF1.out) (HB.out.fr0 HF1.out) mA mB wa wb).mono ?_); rw [HD.out, HY.out]; rintro e w2 hh; obtain ⟨v, rfl, hS, hF⟩ := hh.case; have HS := Lib.hid hS; have HF2 := Lib.hid (HF1.out.trans hF); obtain ⟨a1, c1, e1⟩ := hS.at_; subst e1; clear hh hS hF))
    rcases h3 with rfl | ⟨h3, hra⟩ | ⟨h3, hra, hrb⟩
    · go_wp2
      go_ret
      exact ⟨rfl, HF2.out⟩
    · have h3b : (y == 3) = false := by simpa using h3
      go_wp2_with ((go_at_call 14); (with_reducible refine (right_any _ A _ (HA.out.fr0 HF2.out) mA).mono ?_); rw [hra]; rintro e w3 ⟨rfl, hF⟩; have HF3 := Lib.hid (HF2.out.trans hF); clear hF)
      go_ret
      exact ⟨rfl, HF3.out⟩
    · have h3b : (y == 3) = false := by simpa using h3
      go_wp2_with (first | ((go_at_call 14); (with_reducible refine (right_any _ A _ (HA.out.fr0 HF2.out) mA).mono ?_); rw [hra]; rintro e w3 ⟨rfl, hF⟩; have HF3 := Lib.hid (HF2.out.trans hF); clear hF) | ((go_at_call 14); (with_reducible refine (right_any _ B _ (HB.out.fr0 HF3.out) mB).mono ?_); rw [hrb]; rintro e w4 ⟨rfl, hF⟩; have HF4 := Lib.hid (HF3.out.trans hF); clear hF))
      go_ret
      exact ⟨rfl, HF4.out⟩
end Go.Proofs.Ytmilnhicmeblhaa
