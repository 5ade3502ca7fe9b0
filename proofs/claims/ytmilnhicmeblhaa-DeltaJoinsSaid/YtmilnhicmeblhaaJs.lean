/- The law DeltaJoins: its walk. -/
import Derived.Test.YtmilnhicmeblhaaLt
namespace Go.Proofs.Ytmilnhicmeblhaa
open Go.RowKit Go.Sort
set_option maxRecDepth 1000000
set_option linter.unusedVariables false
set_option linter.unusedSimpArgs false
set_option maxHeartbeats 32000000
def clP (y x : Ch) : Bool := !decide (x.1 = y.1) || (!y.2.2.1 && !y.2.2.2 && !x.2.2.2)
theorem clearB_eq (a b : List Ch) : clearB a b = b.all fun y => a.all fun x => clP y x := rfl
theorem cl_step {b : List Ch} {f : Ch → Bool} {i : Nat} {y : Ch} (h : b[i]? = some y) : (b.take (i + 1)).all f = ((b.take i).all f && f y) := by
  rw [List.take_add_one, h, List.all_append]
  simp
theorem deltaJoins_bad (vo va vb vc : Value) (o : List Ct) (A B C : List Ch) (w : World) (hA : RH w va A) (hB : RH w vb B) (hO : RC w vo o) (hC : RH w vc C) (mA : A.length ≤ 140737488355328) (mB : B.length ≤ 140737488355328)
    (h0 : (joinE A B).2 ≠ 0) :
    Calls Try.prog 8 #[vo, va, vb, vc] w fun e w' => e = .returned (.bool true) ∧ Fr [] w w' := by
  obtain ⟨oa, oc, eo⟩ := hO.at_
  obtain ⟨aa, ac, ea⟩ := hA.at_
  obtain ⟨ba, bc, eb⟩ := hB.at_
  obtain ⟨ca, cc, ec⟩ := hC.at_
  subst eo ea eb ec
  have HA := Lib.hid hA
  have HB := Lib.hid hB
  clear hA hB hO hC
  obtain ⟨d, hd⟩ : ∃ d, (joinE A B).1 = d := ⟨_, rfl⟩
  obtain ⟨y, hy⟩ : ∃ y, (joinE A B).2 = y := ⟨_, rfl⟩
  have HD := Lib.hid hd
  have HY := Lib.hid hy
  have hno := joinE_no (a := A) (b := B) h0
  rw [hd, hy] at hno
  rw [hy] at h0
  obtain ⟨rfl, hno⟩ := hno
  have hyb : (y == 0) = false := by simpa using h0
  have h3 : y = 3 ∨ (y ≠ 3 ∧ rightH A = false) ∨ (y ≠ 3 ∧ rightH A = true ∧ rightH B = false) := by
    by_cases h3 : y = 3
    · exact .inl h3
    · right
      cases ha : rightH A with
      | false => exact .inl ⟨h3, rfl⟩
      | true =>
        right
        refine ⟨h3, rfl, ?_⟩
        rcases hno with h | h | h
        · exact absurd h h3
        · rw [ha] at h; cases h
        · exact h
  clear hno hd hy
  go_enter Try.func8, Try.ntmps8
  go_upto_region 5 with (first | ((go_at_call 12); (with_reducible refine (begins_any _).mono ?_); rintro e w1 ⟨rfl, hF1⟩; have HF1 := Lib.hid hF1; clear hF1) | ((go_at_call 38); (with_reducible refine (join_any _ _ A B _ (HA.out.fr0 HF1.out) (HB.out.fr0 HF1.out) (by omega) (by omega)).mono ?_); rw [HD.out, HY.out]; rintro e w2 hh; obtain ⟨v, rfl, hS, hF⟩ := hh.case; have HS := Lib.hid hS; have HF2 := Lib.hid (HF1.out.trans hF); obtain ⟨a1, c1, e1⟩ := hS.at_; subst e1; clear hh hS hF))
  rcases h3 with rfl | ⟨h3, hra⟩ | ⟨h3, hra, hrb⟩
  · go_wp2
    go_ret
    exact ⟨rfl, HF2.out⟩
  · have h3b : (y == 3) = false := by simpa using h3
    go_wp2_with ((go_at_call 18); (with_reducible refine (rightH_any _ A _ (HA.out.fr0 HF2.out) (by omega)).mono ?_); rw [hra]; rintro e w3 ⟨rfl, hF⟩; have HF3 := Lib.hid (HF2.out.trans hF); clear hF)
    go_ret
    exact ⟨rfl, HF3.out⟩
  · have h3b : (y == 3) = false := by simpa using h3
    go_wp2_with (first | ((go_at_call 18); (with_reducible refine (rightH_any _ A _ (HA.out.fr0 HF2.out) (by omega)).mono ?_); rw [hra]; rintro e w3 ⟨rfl, hF⟩; have HF3 := Lib.hid (HF2.out.trans hF); clear hF) | ((go_at_call 18); (with_reducible refine (rightH_any _ B _ (HB.out.fr0 HF3.out) (by omega)).mono ?_); rw [hrb]; rintro e w4 ⟨rfl, hF⟩; have HF4 := Lib.hid (HF3.out.trans hF); clear hF))
    go_ret
    exact ⟨rfl, HF4.out⟩
set_option maxHeartbeats 64000000 in
theorem deltaJoins_ok (vo va vb vc : Value) (o : List Ct) (A B C : List Ch) (w : World) (hA : RH w va A) (hB : RH w vb B) (hO : RC w vo o) (hC : RH w vc C) (mO : o.length ≤ 140737488355328) (mC : C.length ≤ 140737488355328) (wo : WC o) (wa : WH A) (wb : WH B) (wc : WH C)
    (h0 : (joinE A B).2 = 0) :
    Calls Try.prog 8 #[vo, va, vb, vc] w fun e w' => e = .returned (.bool true) ∧ Fr [] w w' := by
  obtain ⟨oa, oc, eo⟩ := hO.at_
  obtain ⟨aa, ac, ea⟩ := hA.at_
  obtain ⟨ba, bc, eb⟩ := hB.at_
  obtain ⟨ca, cc, ec⟩ := hC.at_
  subst eo ea eb ec
  have HA := Lib.hid hA
  have HB := Lib.hid hB
  have HO := Lib.hid hO
  have HC := Lib.hid hC
  obtain ⟨ra, rb, _, _⟩ := joinE_ok h0
  have mA := (rightH_iff.1 ra).2.2.2
  have mB := (rightH_iff.1 rb).2.2.2
  have hjr := joinE_right wa wb
  have WA := Lib.hid wa
  have WB := Lib.hid wb
  have WC0 := Lib.hid wc
  have WO := Lib.hid wo
  have HJ0 := Lib.hid h0
  have hy0 := h0
  obtain ⟨d, hd⟩ : ∃ d, (joinE A B).1 = d := ⟨_, rfl⟩
  rw [hd] at hjr
  have hdl := (rightH_iff.1 hjr.1).2.2.2
  have HD := Lib.hid hd
  have HJR := Lib.hid hjr
  clear hA hB hO hC wa wb wc wo ra rb hjr h0 hd
  have HY := Lib.hid hy0
  clear hy0
  go_enter Try.func8, Try.ntmps8
  go_upto_region 8 with (first | ((go_at_call 12); (with_reducible refine (begins_any _).mono ?_); rintro e w1 ⟨rfl, hF1⟩; have HF1 := Lib.hid hF1; clear hF1) | ((go_at_call 38); (with_reducible refine (join_any _ _ A B _ (HA.out.fr0 HF1.out) (HB.out.fr0 HF1.out) (by omega) (by omega)).mono ?_); rw [HD.out, HY.out]; rintro e w2 hh; obtain ⟨v, rfl, hS, hF⟩ := hh.case; have HS := Lib.hid hS; have HF2 := Lib.hid (HF1.out.trans hF); obtain ⟨a1, c1, e1⟩ := hS.at_; subst e1; clear hh hS hF) | ((go_at_call 18); (with_reducible refine (rightH_any _ d _ HS.out.rd (by omega)).mono ?_); rw [HJR.out.1]; rintro e w3 ⟨rfl, hF⟩; have HS3 := Lib.hid (HS.out.fr0 hF); have HF3 := Lib.hid (HF2.out.trans hF); clear hF))
  obtain ⟨pa, hpa⟩ : ∃ b, little A = b := ⟨_, rfl⟩
  obtain ⟨pb, hpb⟩ : ∃ b, little B = b := ⟨_, rfl⟩
  obtain ⟨pc, hpc⟩ : ∃ b, little C = b := ⟨_, rfl⟩
  have PA := Lib.hid hpa
  have PB := Lib.hid hpb
  have PC := Lib.hid hpc
  clear hpa hpb hpc
  have arms : True := trivial
  cases pa with
  | false =>
    go_wp2_with ((go_at_call 40); (with_reducible refine (little_any _ A _ (HA.out.fr0 HF3.out) (by omega)).mono ?_); rw [PA.out]; rintro e w4 ⟨rfl, rfl⟩)
    go_ret
    exact ⟨rfl, HF3.out⟩
  | true =>
    cases pb with
    | false =>
      go_wp2_with (first | ((go_at_call 40); (with_reducible refine (little_any _ A _ (HA.out.fr0 HF3.out) (by omega)).mono ?_); rw [PA.out]; rintro e w4 ⟨rfl, rfl⟩) | ((go_at_call 40); (with_reducible refine (little_any _ B _ (HB.out.fr0 HF3.out) (by omega)).mono ?_); rw [PB.out]; rintro e w4 ⟨rfl, rfl⟩))
      go_ret
      exact ⟨rfl, HF3.out⟩
    | true =>
      cases pc with
      | false =>
        go_wp2_with (first | ((go_at_call 40); (with_reducible refine (little_any _ A _ (HA.out.fr0 HF3.out) (by omega)).mono ?_); rw [PA.out]; rintro e w4 ⟨rfl, rfl⟩) | ((go_at_call 40); (with_reducible refine (little_any _ B _ (HB.out.fr0 HF3.out) (by omega)).mono ?_); rw [PB.out]; rintro e w4 ⟨rfl, rfl⟩) | ((go_at_call 40); (with_reducible refine (little_any _ C _ (HC.out.fr0 HF3.out) (by omega)).mono ?_); rw [PC.out]; rintro e w4 ⟨rfl, rfl⟩))
        go_ret
        exact ⟨rfl, HF3.out⟩
      | true =>
        go_upto_region 10 with (first | ((go_at_call 40); (with_reducible refine (little_any _ A _ (HA.out.fr0 HF3.out) (by omega)).mono ?_); rw [PA.out]; rintro e w4 ⟨rfl, rfl⟩) | ((go_at_call 40); (with_reducible refine (little_any _ B _ (HB.out.fr0 HF3.out) (by omega)).mono ?_); rw [PB.out]; rintro e w4 ⟨rfl, rfl⟩) | ((go_at_call 40); (with_reducible refine (little_any _ C _ (HC.out.fr0 HF3.out) (by omega)).mono ?_); rw [PC.out]; rintro e w4 ⟨rfl, rfl⟩))
        obtain ⟨x1, hx1⟩ : ∃ x, (turnE false o A).1 = x := ⟨_, rfl⟩
        obtain ⟨y1, hy1⟩ : ∃ y, (turnE false o A).2 = y := ⟨_, rfl⟩
        obtain ⟨x2, hx2⟩ : ∃ x, (turnE false x1 B).1 = x := ⟨_, rfl⟩
        obtain ⟨y2, hy2⟩ : ∃ y, (turnE false x1 B).2 = y := ⟨_, rfl⟩
        obtain ⟨x3, hx3⟩ : ∃ x, (turnE false o d).1 = x := ⟨_, rfl⟩
        obtain ⟨y3, hy3⟩ : ∃ y, (turnE false o d).2 = y := ⟨_, rfl⟩
        have X1 := Lib.hid hx1
        have Y1 := Lib.hid hy1
        have X2 := Lib.hid hx2
        have Y2 := Lib.hid hy2
        have X3 := Lib.hid hx3
        have Y3 := Lib.hid hy3
        have hr1 := turnE_right (s := false) WO.out WA.out
        rw [hx1] at hr1
        have hl1 := (rightC_iff.1 hr1.1).2.2
        have hr2 := turnE_right (s := false) hr1.2 WB.out
        rw [hx2] at hr2
        have hl2 := (rightC_iff.1 hr2.1).2.2
        have hr3 := turnE_right (s := false) WO.out HJR.out.2
        rw [hx3] at hr3
        have hl3 := (rightC_iff.1 hr3.1).2.2
        have HR1 := Lib.hid hr1
        clear hx1 hy1 hx2 hy2 hx3 hy3 hr1 hr2 hr3
        go_upto_region 11 with ((go_at_call 16); (with_reducible refine (apply_any _ _ o A _ (HO.out.fr0 HF3.out) (HA.out.fr0 HF3.out) (by omega) (by omega) WA.out).mono ?_); rw [X1.out, Y1.out]; rintro e w5 hh; obtain ⟨v, rfl, hS, hF⟩ := hh.case; have T1 := Lib.hid hS; have G1 := Lib.hid (HF3.out.trans hF); have D1 := Lib.hid (HS3.out.fr0 hF); obtain ⟨b1, e1, z1⟩ := hS.at_; subst z1; clear hh hS hF)
        go_upto_region 12 with ((go_at_call 16); (with_reducible refine (apply_any _ _ x1 B _ T1.out.rd (HB.out.fr0 G1.out) (by omega) (by omega) WB.out).mono ?_); rw [X2.out, Y2.out]; rintro e w6 hh; obtain ⟨v, rfl, hS, hF⟩ := hh.case; have T2 := Lib.hid hS; have G2 := Lib.hid (G1.out.trans hF); have D2 := Lib.hid (D1.out.fr0 hF); obtain ⟨b2, e2, z2⟩ := hS.at_; subst z2; clear hh hS hF)
        go_upto_region 13 with ((go_at_call 16); (with_reducible refine (apply_any _ _ o d _ (HO.out.fr0 G2.out) D2.out.rd (by omega) (by omega) HJR.out.2).mono ?_); rw [X3.out, Y3.out]; rintro e w7 hh; obtain ⟨v, rfl, hS, hF⟩ := hh.case; have T3 := Lib.hid hS; have T23 := Lib.hid (T2.out.fr0 hF); have G3 := Lib.hid (G2.out.trans hF); have D3 := Lib.hid (D2.out.fr0 hF); obtain ⟨b3, e3, z3⟩ := hS.at_; subst z3; clear hh hS hF)
        go_cut [99] (fun v wx => v = .bool false ∧ Hid (Fr [] w wx) ∧ Hid (SV wx w1.heap.size 4 (.slice a1 d.length c1) d.length (flat4 d)))
        case first =>
          as_aux_lemma =>
          by_cases h1 : y1 = 0
          · subst h1
            by_cases h2 : y2 = 0
            · subst h2
              by_cases h3 : y3 = 0
              · subst h3
                have hsame : x2 = x3 := by
                  have := joins_apply WO.out WA.out WB.out PA.out PB.out HJ0.out Y1.out (by rw [X1.out]; exact Y2.out) (by rw [HD.out]; exact Y3.out)
                  rw [X1.out, X2.out, HD.out, X3.out] at this
                  exact this
                subst hsame
                go_wp2_with ((go_at_call 17); (with_reducible refine (sameC_true _ _ x2 _ T23.out.rd T3.out.rd (by omega)).mono ?_); rintro e w8 ⟨rfl, hF⟩; have HF8 := Lib.hid hF; clear hF)
                go_meet
                exact ⟨rfl, Lib.hid (G3.out.trans HF8.out), Lib.hid (D3.out.fr0 HF8.out)⟩
              · have h3b : (y3 == 0) = false := by simpa using h3
                go_wp2
                go_meet
                exact ⟨rfl, G3, D3⟩
            · have h2b : (y2 == 0) = false := by simpa using h2
              go_wp2
              go_meet
              exact ⟨rfl, G3, D3⟩
          · have h1b : (y1 == 0) = false := by simpa using h1
            go_wp2
            go_meet
            exact ⟨rfl, G3, D3⟩
        case rest =>
        obtain ⟨rfl, HF4, HS4⟩ := hcut
        clear T1 T2 T3 T23 X1 X2 X3 Y1 Y2 Y3 HR1 G1 G2 G3 D1 D2 D3
        go_upto_region 15 with fail
        refine wp_named ?_
        intro w4 hw4
        rw [hw4] at HF4 HS4
        clear hw4
        go_wp2
        go_loopw [18, 17] (fun u f wr => ∃ i : Nat, i ≤ B.length ∧ u = .int .i64 i ∧ f = .bool ((B.take i).all (fun y => A.all (clP y))) ∧ Hid (Fr [] w4 wr)) (fun u _ _ => B.length - (intOf u).toNat)
        case atStart => exact ⟨0, by omega, rfl, rfl, Lib.hid (Fr.refl _ _)⟩
        case round =>
          as_aux_lemma =>
          obtain ⟨i, hi, rfl, hf, HFI⟩ := hrel
          obtain ⟨fb, hfb⟩ : ∃ fb, ((B.take i).all (fun y => A.all (clP y))) = fb := ⟨_, rfl⟩
          rw [hfb] at hf
          subst hf
          by_cases hil : i < B.length
          · obtain ⟨⟨ys, yn, yr, yg⟩, hi0⟩ : ∃ a, B[i]? = some a := ⟨_, List.getElem?_eq_getElem hil⟩
            obtain ⟨gb, ob, cb, he, gb1, gb2, gb3, gb4⟩ := HB.out.cells (by omega)
            simp only [Value.slice.injEq] at he
            obtain ⟨rfl, -, rfl⟩ := he
            obtain ⟨f0, f1, f2, f3⟩ := flat4_get B i _ hi0
            have m0 := gb4 (i * 4) _ f0
            have m2 := gb4 (i * 4 + 2) _ f2
            have m3 := gb4 (i * 4 + 3) _ f3
            rw [← Nat.add_assoc] at m2 m3
            simp only at m0 m2 m3
            have M0 := Lib.hid m0
            have M2 := Lib.hid m2
            have M3 := Lib.hid m3
            have HST := Lib.hid (cl_step (f := fun y => A.all (clP y)) hi0)
            have HFB := Lib.hid hfb
            clear m0 m2 m3 gb4 f0 f1 f2 f3 hi0 hfb
            go_wp2
            go_loopw [19, 17] (fun u f wr => ∃ k : Nat, k ≤ A.length ∧ u = .int .i64 k ∧ f = .bool (fb && (A.take k).all (clP (ys, yn, yr, yg))) ∧ Hid (Fr [] w4 wr)) (fun u _ _ => A.length - (intOf u).toNat)
            case atStart => exact ⟨0, by omega, rfl, by simp, HFI⟩
            case round =>
              as_aux_lemma =>
              obtain ⟨k, hk, rfl, hf, HFK⟩ := hrel
              obtain ⟨kb, hkb⟩ : ∃ kb, (fb && (A.take k).all (clP (ys, yn, yr, yg))) = kb := ⟨_, rfl⟩
              rw [hkb] at hf
              subst hf
              by_cases hkl : k < A.length
              · obtain ⟨⟨xs, xn, xr, xg⟩, hk0⟩ : ∃ a, A[k]? = some a := ⟨_, List.getElem?_eq_getElem hkl⟩
                obtain ⟨ga, oa', ca', he, ga1, ga2, ga3, ga4⟩ := HA.out.cells (by omega)
                simp only [Value.slice.injEq] at he
                obtain ⟨rfl, -, rfl⟩ := he
                obtain ⟨f0, f1, f2, f3⟩ := flat4_get A k _ hk0
                have n0 := ga4 (k * 4) _ f0
                have n3 := ga4 (k * 4 + 3) _ f3
                rw [← Nat.add_assoc] at n3
                simp only at n0 n3
                have FW := HF4.out.trans HFK.out
                replace n0 := FW.cl n0
                replace n3 := FW.cl n3
                have m0 := FW.cl M0.out
                have m2 := FW.cl M2.out
                have m3 := FW.cl M3.out
                have HKS := Lib.hid (show (fb && (A.take (k + 1)).all (clP (ys, yn, yr, yg))) = (kb && clP (ys, yn, yr, yg) (xs, xn, xr, xg)) by rw [cl_step hk0, ← hkb, Bool.and_assoc])
                clear FW ga4 f0 f1 f2 f3 hk0 hkb
                cases kb with
                | false =>
                  go_wp2
                  go_quiet (fail)
                  go_wp2
                  go_roundw
                  case rel => exact ⟨k + 1, by omega, by go_num, by rw [HKS.out]; rfl, Lib.hid (HFK.out.drN _)⟩
                  case measure => simp [intOf]; omega
                | true =>
                  by_cases hs : xs = ys
                  · subst hs
                    cases yr with
                    | true =>
                      go_wp2
                      go_quiet (fail)
                      go_wp2
                      go_roundw
                      case rel => exact ⟨k + 1, by omega, by go_num, by rw [HKS.out]; simp [clP], Lib.hid (HFK.out.drN _)⟩
                      case measure => simp [intOf]; omega
                    | false =>
                      cases yg with
                      | true =>
                        go_wp2
                        go_quiet (fail)
                        go_wp2
                        go_roundw
                        case rel => exact ⟨k + 1, by omega, by go_num, by rw [HKS.out]; simp [clP], Lib.hid (HFK.out.drN _)⟩
                        case measure => simp [intOf]; omega
                      | false =>
                        cases xg with
                        | true =>
                          go_wp2
                          go_quiet (fail)
                          go_wp2
                          go_roundw
                          case rel => exact ⟨k + 1, by omega, by go_num, by rw [HKS.out]; simp [clP], Lib.hid (HFK.out.drN _)⟩
                          case measure => simp [intOf]; omega
                        | false =>
                          go_wp2
                          go_quiet (fail)
                          go_wp2
                          go_roundw
                          case rel => exact ⟨k + 1, by omega, by go_num, by rw [HKS.out]; simp [clP], Lib.hid (HFK.out.drN _)⟩
                          case measure => simp [intOf]; omega
                  · have hsb := ba_beq hs
                    have HNE := Lib.hid hs
                    clear hs
                    go_wp2
                    go_quiet (fail)
                    go_wp2
                    go_roundw
                    case rel => exact ⟨k + 1, by omega, by go_num, by rw [HKS.out]; simp [clP, HNE.out], Lib.hid (HFK.out.drN _)⟩
                    case measure => simp [intOf]; omega
              · obtain rfl : k = A.length := by omega
                rw [List.take_length] at hkb
                have HKB := Lib.hid hkb
                clear hkb
                go_wp2
                go_roundw
                case rel => exact ⟨i + 1, by omega, by go_num, by rw [HST.out, HFB.out]; exact congrArg Value.bool HKB.out.symm, HFK⟩
                case measure => simp [intOf]; omega
          · obtain rfl : i = B.length := by omega
            rw [List.take_length] at hfb
            have HCL := Lib.hid (show clearB A B = fb by rw [clearB_eq]; exact hfb)
            have HFL := Lib.hid (HF4.out.trans HFI.out)
            have DL := Lib.hid (HS4.out.fr0 HFI.out)
            clear hfb
            obtain ⟨x1, hx1⟩ : ∃ x, (turnE true o A).1 = x := ⟨_, rfl⟩
            obtain ⟨y1, hy1⟩ : ∃ y, (turnE true o A).2 = y := ⟨_, rfl⟩
            obtain ⟨x2, hx2⟩ : ∃ x, (turnE true x1 B).1 = x := ⟨_, rfl⟩
            obtain ⟨y2, hy2⟩ : ∃ y, (turnE true x1 B).2 = y := ⟨_, rfl⟩
            obtain ⟨x3, hx3⟩ : ∃ x, (turnE true o d).1 = x := ⟨_, rfl⟩
            obtain ⟨y3, hy3⟩ : ∃ y, (turnE true o d).2 = y := ⟨_, rfl⟩
            have X1 := Lib.hid hx1
            have Y1 := Lib.hid hy1
            have X2 := Lib.hid hx2
            have Y2 := Lib.hid hy2
            have X3 := Lib.hid hx3
            have Y3 := Lib.hid hy3
            have hr1 := turnE_right (s := true) WO.out WA.out
            rw [hx1] at hr1
            have hl1 := (rightC_iff.1 hr1.1).2.2
            have hr2 := turnE_right (s := true) hr1.2 WB.out
            rw [hx2] at hr2
            have hl2 := (rightC_iff.1 hr2.1).2.2
            have hr3 := turnE_right (s := true) WO.out HJR.out.2
            rw [hx3] at hr3
            have hl3 := (rightC_iff.1 hr3.1).2.2
            have HR1 := Lib.hid hr1
            clear hx1 hy1 hx2 hy2 hx3 hy3 hr1 hr2 hr3
            go_upto_region 24 with ((go_at_call 15); (with_reducible refine (add_any _ _ o A _ (HO.out.fr0 HFL.out) (HA.out.fr0 HFL.out) (by omega) (by omega) WA.out).mono ?_); rw [X1.out, Y1.out]; rintro e w15 hh; obtain ⟨v, rfl, hS, hF⟩ := hh.case; have T1 := Lib.hid hS; have G1 := Lib.hid (HFL.out.trans hF); have D1 := Lib.hid (DL.out.fr0 hF); obtain ⟨b1, e1, z1⟩ := hS.at_; subst z1; clear hh hS hF)
            go_upto_region 25 with ((go_at_call 15); (with_reducible refine (add_any _ _ x1 B _ T1.out.rd (HB.out.fr0 G1.out) (by omega) (by omega) WB.out).mono ?_); rw [X2.out, Y2.out]; rintro e w16 hh; obtain ⟨v, rfl, hS, hF⟩ := hh.case; have T2 := Lib.hid hS; have G2 := Lib.hid (G1.out.trans hF); have D2 := Lib.hid (D1.out.fr0 hF); obtain ⟨b2, e2, z2⟩ := hS.at_; subst z2; clear hh hS hF)
            go_upto_region 26 with ((go_at_call 15); (with_reducible refine (add_any _ _ o d _ (HO.out.fr0 G2.out) D2.out.rd (by omega) (by omega) HJR.out.2).mono ?_); rw [X3.out, Y3.out]; rintro e w17 hh; obtain ⟨v, rfl, hS, hF⟩ := hh.case; have T3 := Lib.hid hS; have T23 := Lib.hid (T2.out.fr0 hF); have G3 := Lib.hid (G2.out.trans hF); have D3 := Lib.hid (D2.out.fr0 hF); obtain ⟨b3, e3, z3⟩ := hS.at_; subst z3; clear hh hS hF)
            go_cut [186] (fun v wx => v = .bool false ∧ Hid (Fr [] w wx) ∧ Hid (SV wx w1.heap.size 4 (.slice a1 d.length c1) d.length (flat4 d)))
            case first =>
              as_aux_lemma =>
              cases fb with
              | false =>
                go_wp2
                go_meet
                exact ⟨rfl, G3, D3⟩
              | true =>
                by_cases h1 : y1 = 0
                · subst h1
                  by_cases h2 : y2 = 0
                  · subst h2
                    by_cases h3 : y3 = 0
                    · subst h3
                      have hsame : x2 = x3 := by
                        have := joins_add WO.out WA.out WB.out PA.out PB.out HCL.out HJ0.out Y1.out (by rw [X1.out]; exact Y2.out) (by rw [HD.out]; exact Y3.out)
                        rw [X1.out, X2.out, HD.out, X3.out] at this
                        exact this
                      subst hsame
                      go_wp2_with ((go_at_call 17); (with_reducible refine (sameC_true _ _ x2 _ T23.out.rd T3.out.rd (by omega)).mono ?_); rintro e w8 ⟨rfl, hF⟩; have HF8 := Lib.hid hF; clear hF)
                      go_meet
                      exact ⟨rfl, Lib.hid (G3.out.trans HF8.out), Lib.hid (D3.out.fr0 HF8.out)⟩
                    · have h3b : (y3 == 0) = false := by simpa using h3
                      go_wp2
                      go_meet
                      exact ⟨rfl, G3, D3⟩
                  · have h2b : (y2 == 0) = false := by simpa using h2
                    go_wp2
                    go_meet
                    exact ⟨rfl, G3, D3⟩
                · have h1b : (y1 == 0) = false := by simpa using h1
                  go_wp2
                  go_meet
                  exact ⟨rfl, G3, D3⟩
            case rest =>
            obtain ⟨rfl, HF9, HS9⟩ := hcut
            as_aux_lemma =>
            clear T1 T2 T3 T23 X1 X2 X3 Y1 Y2 Y3 HR1 G1 G2 G3 D1 D2 D3 DL HFL
            obtain ⟨j1, hj1⟩ : ∃ x, (joinE d C).1 = x := ⟨_, rfl⟩
            obtain ⟨z1, hz1⟩ : ∃ y, (joinE d C).2 = y := ⟨_, rfl⟩
            obtain ⟨j2, hj2⟩ : ∃ x, (joinE B C).1 = x := ⟨_, rfl⟩
            obtain ⟨z2, hz2⟩ : ∃ y, (joinE B C).2 = y := ⟨_, rfl⟩
            obtain ⟨j3, hj3⟩ : ∃ x, (joinE A j2).1 = x := ⟨_, rfl⟩
            obtain ⟨z3, hz3⟩ : ∃ y, (joinE A j2).2 = y := ⟨_, rfl⟩
            have J1 := Lib.hid hj1
            have Z1 := Lib.hid hz1
            have J2 := Lib.hid hj2
            have Z2 := Lib.hid hz2
            have J3 := Lib.hid hj3
            have Z3 := Lib.hid hz3
            have hr2 := joinE_right WB.out WC0.out
            rw [hj2] at hr2
            have hl2 := (rightH_iff.1 hr2.1).2.2.2
            have hr1 := joinE_right HJR.out.2 WC0.out
            rw [hj1] at hr1
            have hl1 := (rightH_iff.1 hr1.1).2.2.2
            have hr3 := joinE_right WA.out hr2.2
            rw [hj3] at hr3
            have hl3 := (rightH_iff.1 hr3.1).2.2.2
            clear hj1 hz1 hj2 hz2 hj3 hz3 hr1 hr2 hr3
            go_upto_region 29 with ((go_at_call 38); (with_reducible refine (join_any _ _ d C _ HS9.out.rd (HC.out.fr0 HF9.out) (by omega) (by omega)).mono ?_); rw [J1.out, Z1.out]; rintro e wa1 hh; obtain ⟨v, rfl, hS, hF⟩ := hh.case; have T1 := Lib.hid hS; have G1 := Lib.hid (HF9.out.trans hF); obtain ⟨b1, e1, q1⟩ := hS.at_; subst q1; clear hh hS hF)
            go_upto_region 30 with ((go_at_call 38); (with_reducible refine (join_any _ _ B C _ (HB.out.fr0 G1.out) (HC.out.fr0 G1.out) (by omega) (by omega)).mono ?_); rw [J2.out, Z2.out]; rintro e wa2 hh; obtain ⟨v, rfl, hS, hF⟩ := hh.case; have T2 := Lib.hid hS; have T12 := Lib.hid (T1.out.fr0 hF); have G2 := Lib.hid (G1.out.trans hF); obtain ⟨b2, e2, q2⟩ := hS.at_; subst q2; clear hh hS hF)
            go_upto_region 31 with ((go_at_call 38); (with_reducible refine (join_any _ _ A j2 _ (HA.out.fr0 G2.out) T2.out.rd (by omega) (by omega)).mono ?_); rw [J3.out, Z3.out]; rintro e wa3 hh; obtain ⟨v, rfl, hS, hF⟩ := hh.case; have T3 := Lib.hid hS; have T13 := Lib.hid (T12.out.fr0 hF); have G3 := Lib.hid (G2.out.trans hF); obtain ⟨b3, e3, q3⟩ := hS.at_; subst q3; clear hh hS hF)
            by_cases h1 : z1 = 0
            · subst h1
              by_cases h2 : z2 = 0
              · subst h2
                by_cases h3 : z3 = 0
                · subst h3
                  have hsame : j1 = j3 := by
                    have := joins_assoc WA.out WB.out WC0.out PA.out PB.out PC.out HJ0.out (by rw [HD.out]; exact Z1.out) Z2.out (by rw [J2.out]; exact Z3.out)
                    rw [HD.out, J1.out, J2.out, J3.out] at this
                    exact this
                  subst hsame
                  go_wp2_with ((go_at_call 35); (with_reducible refine (sameH_true _ _ j1 _ T13.out.rd T3.out.rd (by omega)).mono ?_); rintro e w8 ⟨rfl, hF⟩; have HF8 := Lib.hid hF; clear hF)
                  go_ret
                  exact ⟨rfl, G3.out.trans HF8.out⟩
                · have h3b : (z3 == 0) = false := by simpa using h3
                  go_wp2
                  go_ret
                  exact ⟨rfl, G3.out⟩
              · have h2b : (z2 == 0) = false := by simpa using h2
                go_wp2
                go_ret
                exact ⟨rfl, G3.out⟩
            · have h1b : (z1 == 0) = false := by simpa using h1
              go_wp2
              go_ret
              exact ⟨rfl, G3.out⟩
end Go.Proofs.Ytmilnhicmeblhaa
