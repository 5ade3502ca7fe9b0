/- The reference's comparisons, of like lists; lengths. -/
import Derived.Test.YtmilnhicmeblhaaBg
namespace Go.Proofs.Ytmilnhicmeblhaa
open Go.RowKit Go.Sort
set_option maxRecDepth 100000
set_option linter.unusedVariables false
set_option linter.unusedSimpArgs false
set_option maxHeartbeats 4000000
theorem sameC_true (va vb : Value) (A : List Ct) (w : World) (hA : RC w va A) (hB : RC w vb A) (hm : A.length ≤ 9223372036854775806) :
    Calls Try.prog 17 #[va, vb] w fun e w' => e = .returned (.bool true) ∧ Fr [] w w' := by
  obtain ⟨aa, ac, ea⟩ := hA.at_
  obtain ⟨ba, bc, eb⟩ := hB.at_
  subst ea eb
  have HA := Lib.hid hA
  have HB := Lib.hid hB
  clear hA hB
  go_enter Try.func17, Try.ntmps17
  go_wp2
  go_loopw [5] (fun u wr => ∃ j : Nat, j ≤ A.length ∧ u = .int .i64 j ∧ Hid (Fr [] w wr)) (fun u _ => A.length - (intOf u).toNat)
  case atStart => exact ⟨0, by omega, rfl, Lib.hid (Fr.refl _ _)⟩
  case round =>
    obtain ⟨j, hj, rfl, HF⟩ := hrel
    by_cases hjl : j < A.length
    · obtain ⟨⟨s, n⟩, hj0⟩ : ∃ a, A[j]? = some a := ⟨_, List.getElem?_eq_getElem hjl⟩
      obtain ⟨g, o, c', he, g1, g2, g3, g4⟩ := (HA.out.fr0 HF.out).cells (by omega)
      simp only [Value.slice.injEq] at he
      obtain ⟨rfl, -, rfl⟩ := he
      have k0 := g4 (j * 2) _ (flat2_get A j _ hj0).1
      have k1 := g4 (j * 2 + 1) _ (flat2_get A j _ hj0).2
      rw [← Nat.add_assoc] at k1
      obtain ⟨g', o', c'', he, g1', g2', g3', g4'⟩ := (HB.out.fr0 HF.out).cells (by omega)
      simp only [Value.slice.injEq] at he
      obtain ⟨rfl, -, rfl⟩ := he
      have m0 := g4' (j * 2) _ (flat2_get A j _ hj0).1
      have m1 := g4' (j * 2 + 1) _ (flat2_get A j _ hj0).2
      rw [← Nat.add_assoc] at m1
      simp only at k0 k1 m0 m1
      clear g4 g4' hj0
      go_wp2
      go_quiet (fail)
      go_wp2
      go_roundw
      case rel => exact ⟨j + 1, by omega, by go_num, Lib.hid (HF.out.drN _)⟩
      case measure => simp [intOf]; omega
    · obtain rfl : j = A.length := by omega
      go_wp2
      go_ret
      exact ⟨rfl, HF.out⟩
theorem sameH_true (va vb : Value) (A : List Ch) (w : World) (hA : RH w va A) (hB : RH w vb A) (hm : A.length ≤ 9223372036854775806) :
    Calls Try.prog 35 #[va, vb] w fun e w' => e = .returned (.bool true) ∧ Fr [] w w' := by
  obtain ⟨aa, ac, ea⟩ := hA.at_
  obtain ⟨ba, bc, eb⟩ := hB.at_
  subst ea eb
  have HA := Lib.hid hA
  have HB := Lib.hid hB
  clear hA hB
  go_enter Try.func35, Try.ntmps35
  go_wp2
  go_loopw [5] (fun u wr => ∃ j : Nat, j ≤ A.length ∧ u = .int .i64 j ∧ Hid (Fr [] w wr)) (fun u _ => A.length - (intOf u).toNat)
  case atStart => exact ⟨0, by omega, rfl, Lib.hid (Fr.refl _ _)⟩
  case round =>
    obtain ⟨j, hj, rfl, HF⟩ := hrel
    by_cases hjl : j < A.length
    · obtain ⟨⟨s, n, r, gn⟩, hj0⟩ : ∃ a, A[j]? = some a := ⟨_, List.getElem?_eq_getElem hjl⟩
      obtain ⟨f0, f1, f2, f3⟩ := flat4_get A j _ hj0
      obtain ⟨g, o, c', he, g1, g2, g3, g4⟩ := (HA.out.fr0 HF.out).cells (by omega)
      simp only [Value.slice.injEq] at he
      obtain ⟨rfl, -, rfl⟩ := he
      have k0 := g4 (j * 4) _ f0
      have k1 := g4 (j * 4 + 1) _ f1
      have k2 := g4 (j * 4 + 2) _ f2
      have k3 := g4 (j * 4 + 3) _ f3
      rw [← Nat.add_assoc] at k1 k2 k3
      obtain ⟨g', o', c'', he, g1', g2', g3', g4'⟩ := (HB.out.fr0 HF.out).cells (by omega)
      simp only [Value.slice.injEq] at he
      obtain ⟨rfl, -, rfl⟩ := he
      have m0 := g4' (j * 4) _ f0
      have m1 := g4' (j * 4 + 1) _ f1
      have m2 := g4' (j * 4 + 2) _ f2
      have m3 := g4' (j * 4 + 3) _ f3
      rw [← Nat.add_assoc] at m1 m2 m3
      simp only at k0 k1 k2 k3 m0 m1 m2 m3
      clear g4 g4' hj0 f0 f1 f2 f3
      go_wp2
      go_quiet (fail)
      go_wp2
      go_roundw
      case rel => exact ⟨j + 1, by omega, by go_num, Lib.hid (HF.out.drN _)⟩
      case measure => simp [intOf]; omega
    · obtain rfl : j = A.length := by omega
      go_wp2
      go_ret
      exact ⟨rfl, HF.out⟩
end Go.Proofs.Ytmilnhicmeblhaa
