/- The law CrdtLattice: the walk. -/
import Derived.Test.YtanbfejhhnhabaaLa
import Derived.Test.YtanbfejhhnhabaaLv
namespace Go.Proofs.Ytanbfejhhnhabaa
open Go.RowKit Go.Maps Go.Sort
set_option maxRecDepth 100000
set_option linter.unusedVariables false
set_option linter.unusedSimpArgs false
set_option maxHeartbeats 4000000
theorem merge_to {v1 v2 : Value} {l1 l2 l : List Nd} {y : Int} {w : World} (h1 : RN w v1 l1) (h2 : RN w v2 l2) (a1 : Arg l1) (a2 : Arg l2) (h : mergeF l1 l2 = (l, y)) :
    Calls Try.prog 20 #[v1, v2] w fun e w' => ∃ v, e = .returned (.tuple #[v, .int .i64 y]) ∧ RN w' v l ∧ Fr [] w w' :=
  (merge_any v1 v2 l1 l2 w h1 h2 a1 a2).mono fun e w' ⟨v, k1, k2, k3⟩ => ⟨v, by rw [k1, h], by rw [h] at k2; exact k2.rd, k3⟩
theorem delta_to {v1 v2 : Value} {l1 l2 l : List Nd} {y : Int} {w : World} (h1 : RN w v1 l1) (h2 : RN w v2 l2) (a1 : Arg l1) (a2 : Arg l2) (h : deltaF l1 l2 = (l, y)) :
    Calls Try.prog 22 #[v1, v2] w fun e w' => ∃ v, e = .returned (.tuple #[v, .int .i64 y]) ∧ RN w' v l ∧ Fr [] w w' :=
  (delta_any v1 v2 l1 l2 w h1 h2 a1 a2).mono fun e w' ⟨v, k1, k2, k3⟩ => ⟨v, by rw [k1, h], by rw [h] at k2; exact k2.rd, k3⟩
theorem below_to {v1 v2 : Value} {l1 l2 : List Nd} {p : Bool} {y : Int} {w : World} (h1 : RN w v1 l1) (h2 : RN w v2 l2) (a1 : Arg l1) (a2 : Arg l2) (h : belowF l1 l2 = (p, y)) :
    Calls Try.prog 21 #[v1, v2] w fun e w' => e = .returned (.tuple #[.bool p, .int .i64 y]) ∧ Fr [] w w' :=
  (below_any v1 v2 l1 l2 w h1 h2 a1 a2).mono fun e w' ⟨k1, k2⟩ => ⟨by rw [k1, h], k2⟩
theorem same_to {v1 v2 : Value} {l : List Nd} {w : World} (h1 : RN w v1 l) (h2 : RN w v2 l) :
    Calls Try.prog 18 #[v1, v2] w fun e w' => e = .returned (.bool true) ∧ Fr [] w w' :=
  (same_any v1 v2 l l w h1 h2).mono fun e w' ⟨k1, k2⟩ => ⟨by rw [k1]; simp, k2⟩
theorem lattice_walk (va vb vc : Value) (a b c : List Nd) (w : World) (ha : RN w va a) (hb : RN w vb b) (hc : RN w vc c) (aa : Arg a) (ab_ : Arg b) (ac : Arg c) :
    Calls Try.prog 4 #[va, vb, vc] w fun e w' => e = .returned (.bool true) ∧ Fr [] w w' := by
  have hL := lattice a b c aa ab_ ac
  have HA := Lib.hid ha
  have HB := Lib.hid hb
  have HC := Lib.hid hc
  have Ra := Lib.hid aa
  have Rb := Lib.hid ab_
  have Rc := Lib.hid ac
  have HF := Lib.hid (Fr.refl [] w)
  clear ha hb hc aa ab_ ac
  rcases hL with ⟨y, hy, e1, e2⟩ | ⟨ab, rab, e1, e2, e3, e4, e5, hL⟩
  · have E1 := Lib.hid e1
    have E2 := Lib.hid e2
    clear e1 e2
    rcases hy with rfl | rfl
    · go_enter Try.func4, Try.ntmps4
      go_wp2_with fail
      go_at_call 8
      refine (lives_any _).mono ?_
      rintro e w0 ⟨rfl, hF⟩
      replace HA := Lib.hid (HA.out.fr0 hF)
      replace HB := Lib.hid (HB.out.fr0 hF)
      replace HC := Lib.hid (HC.out.fr0 hF)
      replace HF := Lib.hid (HF.out.trans hF)
      clear hF
      go_wp2_with fail
      go_at_call 20
      refine (merge_to HA.out HB.out Ra.out Rb.out E1.out).mono ?_
      rintro e w1 ⟨v1, rfl, hS, hF⟩
      replace HA := Lib.hid (HA.out.fr0 hF)
      replace HB := Lib.hid (HB.out.fr0 hF)
      replace HC := Lib.hid (HC.out.fr0 hF)
      replace HF := Lib.hid (HF.out.trans hF)
      clear hF
      have HAB := Lib.hid hS
      clear hS
      go_wp2_with fail
      go_at_call 20
      refine (merge_to HB.out HA.out Rb.out Ra.out E2.out).mono ?_
      rintro e w2 ⟨v2, rfl, hS, hF⟩
      replace HA := Lib.hid (HA.out.fr0 hF)
      replace HB := Lib.hid (HB.out.fr0 hF)
      replace HC := Lib.hid (HC.out.fr0 hF)
      replace HAB := Lib.hid (HAB.out.fr0 hF)
      replace HF := Lib.hid (HF.out.trans hF)
      clear hF
      have HBA := Lib.hid hS
      clear hS
      go_wp2_with fail
      go_ret
      exact ⟨rfl, HF.out⟩
    · go_enter Try.func4, Try.ntmps4
      go_wp2_with fail
      go_at_call 8
      refine (lives_any _).mono ?_
      rintro e w0 ⟨rfl, hF⟩
      replace HA := Lib.hid (HA.out.fr0 hF)
      replace HB := Lib.hid (HB.out.fr0 hF)
      replace HC := Lib.hid (HC.out.fr0 hF)
      replace HF := Lib.hid (HF.out.trans hF)
      clear hF
      go_wp2_with fail
      go_at_call 20
      refine (merge_to HA.out HB.out Ra.out Rb.out E1.out).mono ?_
      rintro e w1 ⟨v1, rfl, hS, hF⟩
      replace HA := Lib.hid (HA.out.fr0 hF)
      replace HB := Lib.hid (HB.out.fr0 hF)
      replace HC := Lib.hid (HC.out.fr0 hF)
      replace HF := Lib.hid (HF.out.trans hF)
      clear hF
      have HAB := Lib.hid hS
      clear hS
      go_wp2_with fail
      go_at_call 20
      refine (merge_to HB.out HA.out Rb.out Ra.out E2.out).mono ?_
      rintro e w2 ⟨v2, rfl, hS, hF⟩
      replace HA := Lib.hid (HA.out.fr0 hF)
      replace HB := Lib.hid (HB.out.fr0 hF)
      replace HC := Lib.hid (HC.out.fr0 hF)
      replace HAB := Lib.hid (HAB.out.fr0 hF)
      replace HF := Lib.hid (HF.out.trans hF)
      clear hF
      have HBA := Lib.hid hS
      clear hS
      go_wp2_with fail
      go_ret
      exact ⟨rfl, HF.out⟩
  · have Rab := Lib.hid rab
    have E1 := Lib.hid e1
    have E2 := Lib.hid e2
    have E3 := Lib.hid e3
    have E4 := Lib.hid e4
    have E5 := Lib.hid e5
    clear e1 e2 e3 e4 e5 rab
    rcases hL with ⟨y, hy, e6⟩ | ⟨bc, x, z, p, q, d, rbc, rd, e6, e7, e8, e9, e10, e11, e12, e13⟩
    · have E6 := Lib.hid e6
      clear e6
      rcases hy with rfl | rfl
      · go_enter Try.func4, Try.ntmps4
        go_wp2_with fail
        go_at_call 8
        refine (lives_any _).mono ?_
        rintro e w0 ⟨rfl, hF⟩
        replace HA := Lib.hid (HA.out.fr0 hF)
        replace HB := Lib.hid (HB.out.fr0 hF)
        replace HC := Lib.hid (HC.out.fr0 hF)
        replace HF := Lib.hid (HF.out.trans hF)
        clear hF
        go_wp2_with fail
        go_at_call 20
        refine (merge_to HA.out HB.out Ra.out Rb.out E1.out).mono ?_
        rintro e w1 ⟨v1, rfl, hS, hF⟩
        replace HA := Lib.hid (HA.out.fr0 hF)
        replace HB := Lib.hid (HB.out.fr0 hF)
        replace HC := Lib.hid (HC.out.fr0 hF)
        replace HF := Lib.hid (HF.out.trans hF)
        clear hF
        have HAB := Lib.hid hS
        clear hS
        go_wp2_with fail
        go_at_call 20
        refine (merge_to HB.out HA.out Rb.out Ra.out E2.out).mono ?_
        rintro e w2 ⟨v2, rfl, hS, hF⟩
        replace HA := Lib.hid (HA.out.fr0 hF)
        replace HB := Lib.hid (HB.out.fr0 hF)
        replace HC := Lib.hid (HC.out.fr0 hF)
        replace HAB := Lib.hid (HAB.out.fr0 hF)
        replace HF := Lib.hid (HF.out.trans hF)
        clear hF
        have HBA := Lib.hid hS
        clear hS
        go_wp2_with fail
        go_at_call 20
        refine (merge_to HA.out HA.out Ra.out Ra.out E3.out).mono ?_
        rintro e w3 ⟨v3, rfl, hS, hF⟩
        replace HA := Lib.hid (HA.out.fr0 hF)
        replace HB := Lib.hid (HB.out.fr0 hF)
        replace HC := Lib.hid (HC.out.fr0 hF)
        replace HAB := Lib.hid (HAB.out.fr0 hF)
        replace HBA := Lib.hid (HBA.out.fr0 hF)
        replace HF := Lib.hid (HF.out.trans hF)
        clear hF
        have HAA := Lib.hid hS
        clear hS
        go_wp2_with fail
        go_at_call 21
        refine (below_to HA.out HAB.out Ra.out Rab.out E4.out).mono ?_
        rintro e w4 ⟨rfl, hF⟩
        replace HA := Lib.hid (HA.out.fr0 hF)
        replace HB := Lib.hid (HB.out.fr0 hF)
        replace HC := Lib.hid (HC.out.fr0 hF)
        replace HAB := Lib.hid (HAB.out.fr0 hF)
        replace HBA := Lib.hid (HBA.out.fr0 hF)
        replace HAA := Lib.hid (HAA.out.fr0 hF)
        replace HF := Lib.hid (HF.out.trans hF)
        clear hF
        go_wp2_with fail
        go_at_call 21
        refine (below_to HB.out HAB.out Rb.out Rab.out E5.out).mono ?_
        rintro e w5 ⟨rfl, hF⟩
        replace HA := Lib.hid (HA.out.fr0 hF)
        replace HB := Lib.hid (HB.out.fr0 hF)
        replace HC := Lib.hid (HC.out.fr0 hF)
        replace HAB := Lib.hid (HAB.out.fr0 hF)
        replace HBA := Lib.hid (HBA.out.fr0 hF)
        replace HAA := Lib.hid (HAA.out.fr0 hF)
        replace HF := Lib.hid (HF.out.trans hF)
        clear hF
        go_wp2_with fail
        go_at_call 18
        refine (same_to HAB.out HBA.out).mono ?_
        rintro e w6 ⟨rfl, hF⟩
        replace HA := Lib.hid (HA.out.fr0 hF)
        replace HB := Lib.hid (HB.out.fr0 hF)
        replace HC := Lib.hid (HC.out.fr0 hF)
        replace HAB := Lib.hid (HAB.out.fr0 hF)
        replace HBA := Lib.hid (HBA.out.fr0 hF)
        replace HAA := Lib.hid (HAA.out.fr0 hF)
        replace HF := Lib.hid (HF.out.trans hF)
        clear hF
        go_wp2_with fail
        go_at_call 18
        refine (same_to HAA.out HA.out).mono ?_
        rintro e w7 ⟨rfl, hF⟩
        replace HA := Lib.hid (HA.out.fr0 hF)
        replace HB := Lib.hid (HB.out.fr0 hF)
        replace HC := Lib.hid (HC.out.fr0 hF)
        replace HAB := Lib.hid (HAB.out.fr0 hF)
        replace HBA := Lib.hid (HBA.out.fr0 hF)
        replace HAA := Lib.hid (HAA.out.fr0 hF)
        replace HF := Lib.hid (HF.out.trans hF)
        clear hF
        go_wp2_with fail
        go_at_call 20
        refine (merge_to HB.out HC.out Rb.out Rc.out E6.out).mono ?_
        rintro e w8 ⟨v8, rfl, hS, hF⟩
        replace HA := Lib.hid (HA.out.fr0 hF)
        replace HB := Lib.hid (HB.out.fr0 hF)
        replace HC := Lib.hid (HC.out.fr0 hF)
        replace HAB := Lib.hid (HAB.out.fr0 hF)
        replace HBA := Lib.hid (HBA.out.fr0 hF)
        replace HAA := Lib.hid (HAA.out.fr0 hF)
        replace HF := Lib.hid (HF.out.trans hF)
        clear hF
        have HBC := Lib.hid hS
        clear hS
        go_wp2_with fail
        go_ret
        exact ⟨rfl, HF.out⟩
      · go_enter Try.func4, Try.ntmps4
        go_wp2_with fail
        go_at_call 8
        refine (lives_any _).mono ?_
        rintro e w0 ⟨rfl, hF⟩
        replace HA := Lib.hid (HA.out.fr0 hF)
        replace HB := Lib.hid (HB.out.fr0 hF)
        replace HC := Lib.hid (HC.out.fr0 hF)
        replace HF := Lib.hid (HF.out.trans hF)
        clear hF
        go_wp2_with fail
        go_at_call 20
        refine (merge_to HA.out HB.out Ra.out Rb.out E1.out).mono ?_
        rintro e w1 ⟨v1, rfl, hS, hF⟩
        replace HA := Lib.hid (HA.out.fr0 hF)
        replace HB := Lib.hid (HB.out.fr0 hF)
        replace HC := Lib.hid (HC.out.fr0 hF)
        replace HF := Lib.hid (HF.out.trans hF)
        clear hF
        have HAB := Lib.hid hS
        clear hS
        go_wp2_with fail
        go_at_call 20
        refine (merge_to HB.out HA.out Rb.out Ra.out E2.out).mono ?_
        rintro e w2 ⟨v2, rfl, hS, hF⟩
        replace HA := Lib.hid (HA.out.fr0 hF)
        replace HB := Lib.hid (HB.out.fr0 hF)
        replace HC := Lib.hid (HC.out.fr0 hF)
        replace HAB := Lib.hid (HAB.out.fr0 hF)
        replace HF := Lib.hid (HF.out.trans hF)
        clear hF
        have HBA := Lib.hid hS
        clear hS
        go_wp2_with fail
        go_at_call 20
        refine (merge_to HA.out HA.out Ra.out Ra.out E3.out).mono ?_
        rintro e w3 ⟨v3, rfl, hS, hF⟩
        replace HA := Lib.hid (HA.out.fr0 hF)
        replace HB := Lib.hid (HB.out.fr0 hF)
        replace HC := Lib.hid (HC.out.fr0 hF)
        replace HAB := Lib.hid (HAB.out.fr0 hF)
        replace HBA := Lib.hid (HBA.out.fr0 hF)
        replace HF := Lib.hid (HF.out.trans hF)
        clear hF
        have HAA := Lib.hid hS
        clear hS
        go_wp2_with fail
        go_at_call 21
        refine (below_to HA.out HAB.out Ra.out Rab.out E4.out).mono ?_
        rintro e w4 ⟨rfl, hF⟩
        replace HA := Lib.hid (HA.out.fr0 hF)
        replace HB := Lib.hid (HB.out.fr0 hF)
        replace HC := Lib.hid (HC.out.fr0 hF)
        replace HAB := Lib.hid (HAB.out.fr0 hF)
        replace HBA := Lib.hid (HBA.out.fr0 hF)
        replace HAA := Lib.hid (HAA.out.fr0 hF)
        replace HF := Lib.hid (HF.out.trans hF)
        clear hF
        go_wp2_with fail
        go_at_call 21
        refine (below_to HB.out HAB.out Rb.out Rab.out E5.out).mono ?_
        rintro e w5 ⟨rfl, hF⟩
        replace HA := Lib.hid (HA.out.fr0 hF)
        replace HB := Lib.hid (HB.out.fr0 hF)
        replace HC := Lib.hid (HC.out.fr0 hF)
        replace HAB := Lib.hid (HAB.out.fr0 hF)
        replace HBA := Lib.hid (HBA.out.fr0 hF)
        replace HAA := Lib.hid (HAA.out.fr0 hF)
        replace HF := Lib.hid (HF.out.trans hF)
        clear hF
        go_wp2_with fail
        go_at_call 18
        refine (same_to HAB.out HBA.out).mono ?_
        rintro e w6 ⟨rfl, hF⟩
        replace HA := Lib.hid (HA.out.fr0 hF)
        replace HB := Lib.hid (HB.out.fr0 hF)
        replace HC := Lib.hid (HC.out.fr0 hF)
        replace HAB := Lib.hid (HAB.out.fr0 hF)
        replace HBA := Lib.hid (HBA.out.fr0 hF)
        replace HAA := Lib.hid (HAA.out.fr0 hF)
        replace HF := Lib.hid (HF.out.trans hF)
        clear hF
        go_wp2_with fail
        go_at_call 18
        refine (same_to HAA.out HA.out).mono ?_
        rintro e w7 ⟨rfl, hF⟩
        replace HA := Lib.hid (HA.out.fr0 hF)
        replace HB := Lib.hid (HB.out.fr0 hF)
        replace HC := Lib.hid (HC.out.fr0 hF)
        replace HAB := Lib.hid (HAB.out.fr0 hF)
        replace HBA := Lib.hid (HBA.out.fr0 hF)
        replace HAA := Lib.hid (HAA.out.fr0 hF)
        replace HF := Lib.hid (HF.out.trans hF)
        clear hF
        go_wp2_with fail
        go_at_call 20
        refine (merge_to HB.out HC.out Rb.out Rc.out E6.out).mono ?_
        rintro e w8 ⟨v8, rfl, hS, hF⟩
        replace HA := Lib.hid (HA.out.fr0 hF)
        replace HB := Lib.hid (HB.out.fr0 hF)
        replace HC := Lib.hid (HC.out.fr0 hF)
        replace HAB := Lib.hid (HAB.out.fr0 hF)
        replace HBA := Lib.hid (HBA.out.fr0 hF)
        replace HAA := Lib.hid (HAA.out.fr0 hF)
        replace HF := Lib.hid (HF.out.trans hF)
        clear hF
        have HBC := Lib.hid hS
        clear hS
        go_wp2_with fail
        go_ret
        exact ⟨rfl, HF.out⟩
    · have Rbc := Lib.hid rbc
      have Rd := Lib.hid rd
      have E6 := Lib.hid e6
      have E7 := Lib.hid e7
      have E8 := Lib.hid e8
      have E9 := Lib.hid e9
      have E10 := Lib.hid e10
      have E11 := Lib.hid e11
      have E12 := Lib.hid e12
      have E13 := Lib.hid e13
      clear e6 e7 e8 e9 e10 e11 e12 e13 rbc rd
      go_enter Try.func4, Try.ntmps4
      go_wp2_with fail
      go_at_call 8
      refine (lives_any _).mono ?_
      rintro e w0 ⟨rfl, hF⟩
      replace HA := Lib.hid (HA.out.fr0 hF)
      replace HB := Lib.hid (HB.out.fr0 hF)
      replace HC := Lib.hid (HC.out.fr0 hF)
      replace HF := Lib.hid (HF.out.trans hF)
      clear hF
      go_wp2_with fail
      go_at_call 20
      refine (merge_to HA.out HB.out Ra.out Rb.out E1.out).mono ?_
      rintro e w1 ⟨v1, rfl, hS, hF⟩
      replace HA := Lib.hid (HA.out.fr0 hF)
      replace HB := Lib.hid (HB.out.fr0 hF)
      replace HC := Lib.hid (HC.out.fr0 hF)
      replace HF := Lib.hid (HF.out.trans hF)
      clear hF
      have HAB := Lib.hid hS
      clear hS
      go_wp2_with fail
      go_at_call 20
      refine (merge_to HB.out HA.out Rb.out Ra.out E2.out).mono ?_
      rintro e w2 ⟨v2, rfl, hS, hF⟩
      replace HA := Lib.hid (HA.out.fr0 hF)
      replace HB := Lib.hid (HB.out.fr0 hF)
      replace HC := Lib.hid (HC.out.fr0 hF)
      replace HAB := Lib.hid (HAB.out.fr0 hF)
      replace HF := Lib.hid (HF.out.trans hF)
      clear hF
      have HBA := Lib.hid hS
      clear hS
      go_wp2_with fail
      go_at_call 20
      refine (merge_to HA.out HA.out Ra.out Ra.out E3.out).mono ?_
      rintro e w3 ⟨v3, rfl, hS, hF⟩
      replace HA := Lib.hid (HA.out.fr0 hF)
      replace HB := Lib.hid (HB.out.fr0 hF)
      replace HC := Lib.hid (HC.out.fr0 hF)
      replace HAB := Lib.hid (HAB.out.fr0 hF)
      replace HBA := Lib.hid (HBA.out.fr0 hF)
      replace HF := Lib.hid (HF.out.trans hF)
      clear hF
      have HAA := Lib.hid hS
      clear hS
      go_wp2_with fail
      go_at_call 21
      refine (below_to HA.out HAB.out Ra.out Rab.out E4.out).mono ?_
      rintro e w4 ⟨rfl, hF⟩
      replace HA := Lib.hid (HA.out.fr0 hF)
      replace HB := Lib.hid (HB.out.fr0 hF)
      replace HC := Lib.hid (HC.out.fr0 hF)
      replace HAB := Lib.hid (HAB.out.fr0 hF)
      replace HBA := Lib.hid (HBA.out.fr0 hF)
      replace HAA := Lib.hid (HAA.out.fr0 hF)
      replace HF := Lib.hid (HF.out.trans hF)
      clear hF
      go_wp2_with fail
      go_at_call 21
      refine (below_to HB.out HAB.out Rb.out Rab.out E5.out).mono ?_
      rintro e w5 ⟨rfl, hF⟩
      replace HA := Lib.hid (HA.out.fr0 hF)
      replace HB := Lib.hid (HB.out.fr0 hF)
      replace HC := Lib.hid (HC.out.fr0 hF)
      replace HAB := Lib.hid (HAB.out.fr0 hF)
      replace HBA := Lib.hid (HBA.out.fr0 hF)
      replace HAA := Lib.hid (HAA.out.fr0 hF)
      replace HF := Lib.hid (HF.out.trans hF)
      clear hF
      go_wp2_with fail
      go_at_call 18
      refine (same_to HAB.out HBA.out).mono ?_
      rintro e w6 ⟨rfl, hF⟩
      replace HA := Lib.hid (HA.out.fr0 hF)
      replace HB := Lib.hid (HB.out.fr0 hF)
      replace HC := Lib.hid (HC.out.fr0 hF)
      replace HAB := Lib.hid (HAB.out.fr0 hF)
      replace HBA := Lib.hid (HBA.out.fr0 hF)
      replace HAA := Lib.hid (HAA.out.fr0 hF)
      replace HF := Lib.hid (HF.out.trans hF)
      clear hF
      go_wp2_with fail
      go_at_call 18
      refine (same_to HAA.out HA.out).mono ?_
      rintro e w7 ⟨rfl, hF⟩
      replace HA := Lib.hid (HA.out.fr0 hF)
      replace HB := Lib.hid (HB.out.fr0 hF)
      replace HC := Lib.hid (HC.out.fr0 hF)
      replace HAB := Lib.hid (HAB.out.fr0 hF)
      replace HBA := Lib.hid (HBA.out.fr0 hF)
      replace HAA := Lib.hid (HAA.out.fr0 hF)
      replace HF := Lib.hid (HF.out.trans hF)
      clear hF
      go_wp2_with fail
      go_at_call 20
      refine (merge_to HB.out HC.out Rb.out Rc.out E6.out).mono ?_
      rintro e w8 ⟨v8, rfl, hS, hF⟩
      replace HA := Lib.hid (HA.out.fr0 hF)
      replace HB := Lib.hid (HB.out.fr0 hF)
      replace HC := Lib.hid (HC.out.fr0 hF)
      replace HAB := Lib.hid (HAB.out.fr0 hF)
      replace HBA := Lib.hid (HBA.out.fr0 hF)
      replace HAA := Lib.hid (HAA.out.fr0 hF)
      replace HF := Lib.hid (HF.out.trans hF)
      clear hF
      have HBC := Lib.hid hS
      clear hS
      go_wp2_with fail
      go_at_call 20
      refine (merge_to HAB.out HC.out Rab.out Rc.out E7.out).mono ?_
      rintro e w9 ⟨v9, rfl, hS, hF⟩
      replace HA := Lib.hid (HA.out.fr0 hF)
      replace HB := Lib.hid (HB.out.fr0 hF)
      replace HC := Lib.hid (HC.out.fr0 hF)
      replace HAB := Lib.hid (HAB.out.fr0 hF)
      replace HBA := Lib.hid (HBA.out.fr0 hF)
      replace HAA := Lib.hid (HAA.out.fr0 hF)
      replace HBC := Lib.hid (HBC.out.fr0 hF)
      replace HF := Lib.hid (HF.out.trans hF)
      clear hF
      have HX := Lib.hid hS
      clear hS
      go_wp2_with fail
      go_at_call 20
      refine (merge_to HA.out HBC.out Ra.out Rbc.out E8.out).mono ?_
      rintro e w10 ⟨v10, rfl, hS, hF⟩
      replace HA := Lib.hid (HA.out.fr0 hF)
      replace HB := Lib.hid (HB.out.fr0 hF)
      replace HC := Lib.hid (HC.out.fr0 hF)
      replace HAB := Lib.hid (HAB.out.fr0 hF)
      replace HBA := Lib.hid (HBA.out.fr0 hF)
      replace HAA := Lib.hid (HAA.out.fr0 hF)
      replace HBC := Lib.hid (HBC.out.fr0 hF)
      replace HX := Lib.hid (HX.out.fr0 hF)
      replace HF := Lib.hid (HF.out.trans hF)
      clear hF
      have HY := Lib.hid hS
      clear hS
      go_wp2_with fail
      go_at_call 18
      refine (same_to HX.out HY.out).mono ?_
      rintro e w11 ⟨rfl, hF⟩
      replace HA := Lib.hid (HA.out.fr0 hF)
      replace HB := Lib.hid (HB.out.fr0 hF)
      replace HC := Lib.hid (HC.out.fr0 hF)
      replace HAB := Lib.hid (HAB.out.fr0 hF)
      replace HBA := Lib.hid (HBA.out.fr0 hF)
      replace HAA := Lib.hid (HAA.out.fr0 hF)
      replace HBC := Lib.hid (HBC.out.fr0 hF)
      replace HX := Lib.hid (HX.out.fr0 hF)
      replace HY := Lib.hid (HY.out.fr0 hF)
      replace HF := Lib.hid (HF.out.trans hF)
      clear hF
      go_wp2_with fail
      go_at_call 21
      refine (below_to HA.out HC.out Ra.out Rc.out E9.out).mono ?_
      rintro e w12 ⟨rfl, hF⟩
      replace HA := Lib.hid (HA.out.fr0 hF)
      replace HB := Lib.hid (HB.out.fr0 hF)
      replace HC := Lib.hid (HC.out.fr0 hF)
      replace HAB := Lib.hid (HAB.out.fr0 hF)
      replace HBA := Lib.hid (HBA.out.fr0 hF)
      replace HAA := Lib.hid (HAA.out.fr0 hF)
      replace HBC := Lib.hid (HBC.out.fr0 hF)
      replace HX := Lib.hid (HX.out.fr0 hF)
      replace HY := Lib.hid (HY.out.fr0 hF)
      replace HF := Lib.hid (HF.out.trans hF)
      clear hF
      go_wp2_with fail
      go_at_call 21
      refine (below_to HB.out HC.out Rb.out Rc.out E10.out).mono ?_
      rintro e w13 ⟨rfl, hF⟩
      replace HA := Lib.hid (HA.out.fr0 hF)
      replace HB := Lib.hid (HB.out.fr0 hF)
      replace HC := Lib.hid (HC.out.fr0 hF)
      replace HAB := Lib.hid (HAB.out.fr0 hF)
      replace HBA := Lib.hid (HBA.out.fr0 hF)
      replace HAA := Lib.hid (HAA.out.fr0 hF)
      replace HBC := Lib.hid (HBC.out.fr0 hF)
      replace HX := Lib.hid (HX.out.fr0 hF)
      replace HY := Lib.hid (HY.out.fr0 hF)
      replace HF := Lib.hid (HF.out.trans hF)
      clear hF
      go_wp2_with fail
      go_at_call 21
      refine (below_to HAB.out HC.out Rab.out Rc.out E11.out).mono ?_
      rintro e w14 ⟨rfl, hF⟩
      replace HA := Lib.hid (HA.out.fr0 hF)
      replace HB := Lib.hid (HB.out.fr0 hF)
      replace HC := Lib.hid (HC.out.fr0 hF)
      replace HAB := Lib.hid (HAB.out.fr0 hF)
      replace HBA := Lib.hid (HBA.out.fr0 hF)
      replace HAA := Lib.hid (HAA.out.fr0 hF)
      replace HBC := Lib.hid (HBC.out.fr0 hF)
      replace HX := Lib.hid (HX.out.fr0 hF)
      replace HY := Lib.hid (HY.out.fr0 hF)
      replace HF := Lib.hid (HF.out.trans hF)
      clear hF
      go_wp2_with fail
      go_at_call 22
      refine (delta_to HB.out HA.out Rb.out Ra.out E12.out).mono ?_
      rintro e w15 ⟨v15, rfl, hS, hF⟩
      replace HA := Lib.hid (HA.out.fr0 hF)
      replace HB := Lib.hid (HB.out.fr0 hF)
      replace HC := Lib.hid (HC.out.fr0 hF)
      replace HAB := Lib.hid (HAB.out.fr0 hF)
      replace HBA := Lib.hid (HBA.out.fr0 hF)
      replace HAA := Lib.hid (HAA.out.fr0 hF)
      replace HBC := Lib.hid (HBC.out.fr0 hF)
      replace HX := Lib.hid (HX.out.fr0 hF)
      replace HY := Lib.hid (HY.out.fr0 hF)
      replace HF := Lib.hid (HF.out.trans hF)
      clear hF
      have HD := Lib.hid hS
      clear hS
      go_wp2_with fail
      go_at_call 20
      refine (merge_to HA.out HD.out Ra.out Rd.out E13.out).mono ?_
      rintro e w16 ⟨v16, rfl, hS, hF⟩
      replace HA := Lib.hid (HA.out.fr0 hF)
      replace HB := Lib.hid (HB.out.fr0 hF)
      replace HC := Lib.hid (HC.out.fr0 hF)
      replace HAB := Lib.hid (HAB.out.fr0 hF)
      replace HBA := Lib.hid (HBA.out.fr0 hF)
      replace HAA := Lib.hid (HAA.out.fr0 hF)
      replace HBC := Lib.hid (HBC.out.fr0 hF)
      replace HX := Lib.hid (HX.out.fr0 hF)
      replace HY := Lib.hid (HY.out.fr0 hF)
      replace HD := Lib.hid (HD.out.fr0 hF)
      replace HF := Lib.hid (HF.out.trans hF)
      clear hF
      have HM := Lib.hid hS
      clear hS
      go_wp2_with fail
      cases p <;> cases q
      all_goals (try go_wp2_with fail)
      all_goals (go_at_call 18; refine (same_to HM.out HAB.out).mono ?_; rintro e wz ⟨rfl, hF⟩; replace HF := Lib.hid (HF.out.trans hF); clear hF)
      all_goals go_wp2_with fail
      all_goals go_ret
      all_goals exact ⟨rfl, HF.out⟩
end Go.Proofs.Ytanbfejhhnhabaa
