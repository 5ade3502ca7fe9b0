/- The reference's comparisons, of like lists; lengths. -/
import Derived.Test.YtmilnhicmeblhaaBg
namespace Go.Proofs.Ytmilnhicmeblhaa
open Go.RowKit Go.Sort
set_option maxRecDepth 100000
set_option linter.unusedVariables false
set_option linter.unusedSimpArgs false
set_option maxHeartbeats 4000000
theorem sameC_q (va vb : Value) (A : List Ct) (w : World) (hA : RC w va A) (hB : RC w vb A) (hm : A.length ≤ 9223372036854775806) :
    Calls Try.prog 17 #[va, vb] w fun e w' => e = .returned (.bool true) ∧ ∃ m, w' = w.drewN m := by
  obtain ⟨aa, ac, ea⟩ := hA.at_
  obtain ⟨ba, bc, eb⟩ := hB.at_
  subst ea eb
  have HA := Lib.hid hA
  have HB := Lib.hid hB
  clear hA hB
  go_enter Try.func17, Try.ntmps17
  go_wp2
  go_loopw [5] (fun u wr => ∃ j : Nat, j ≤ A.length ∧ u = .int .i64 j ∧ Hid (∃ m, wr = w.drewN m)) (fun u _ => A.length - (intOf u).toNat)
  case atStart => exact ⟨0, by omega, rfl, Lib.hid ⟨0, rfl⟩⟩
  case round =>
    obtain ⟨j, hj, rfl, HM⟩ := hrel
    have HF := Lib.hid (show Fr [] w wr from by obtain ⟨m, hm⟩ := HM.out; rw [hm]; exact (Fr.refl _ _).drN m)
    by_cases hjl : j < A.length
    · obtain ⟨⟨s, n⟩, hj0⟩ : ∃ a, A[j]? = some a := ⟨_, List.getElem?_eq_getElem hjl⟩
      obtain ⟨g, o, c', he, g1, g2, g3, g4⟩ := (HA.out.fr0 HF.out).cells (by omega)
      simp only [Value.slice.injEq] at he
      obtain ⟨rfl, -, rfl⟩ := he
      have k0 := g4 (j * 2) _ (flat2_get A j _ hj0).1
      have k1 := g4 (j * 2 + 1) _ (flat2_get A j _ hj0).2
      rw [← Nat.add_assoc] at k1
      obtain ⟨g', o', c'', he, g1', g2', g3', g4'⟩ := (HB.out.fr0 HF.out).cells (by omega)
      simp only [Value.slice.injEq] at he
      obtain ⟨rfl, -, rfl⟩ := he
      have m0 := g4' (j * 2) _ (flat2_get A j _ hj0).1
      have m1 := g4' (j * 2 + 1) _ (flat2_get A j _ hj0).2
      rw [← Nat.add_assoc] at m1
      simp only at k0 k1 m0 m1
      clear g4 g4' hj0
      go_wp2
      go_quiet (fail)
      go_wp2
      go_roundw
      case rel => exact ⟨j + 1, by omega, by go_num, Lib.hid (by obtain ⟨m, hm⟩ := HM.out; exact ⟨m + nq, by rw [hm, World.drewN_drewN]⟩)⟩
      case measure => simp [intOf]; omega
    · obtain rfl : j = A.length := by omega
      go_wp2
      go_ret
      exact ⟨rfl, HM.out⟩
theorem sameH_q (va vb : Value) (A : List Ch) (w : World) (hA : RH w va A) (hB : RH w vb A) (hm : A.length ≤ 9223372036854775806) :
    Calls Try.prog 35 #[va, vb] w fun e w' => e = .returned (.bool true) ∧ ∃ m, w' = w.drewN m := by
  obtain ⟨aa, ac, ea⟩ := hA.at_
  obtain ⟨ba, bc, eb⟩ := hB.at_
  subst ea eb
  have HA := Lib.hid hA
  have HB := Lib.hid hB
  clear hA hB
  go_enter Try.func35, Try.ntmps35
  go_wp2
  go_loopw [5] (fun u wr => ∃ j : Nat, j ≤ A.length ∧ u = .int .i64 j ∧ Hid (∃ m, wr = w.drewN m)) (fun u _ => A.length - (intOf u).toNat)
  case atStart => exact ⟨0, by omega, rfl, Lib.hid ⟨0, rfl⟩⟩
  case round =>
    obtain ⟨j, hj, rfl, HM⟩ := hrel
    have HF := Lib.hid (show Fr [] w wr from by obtain ⟨m, hm⟩ := HM.out; rw [hm]; exact (Fr.refl _ _).drN m)
    by_cases hjl : j < A.length
    · obtain ⟨⟨s, n, r, gn⟩, hj0⟩ : ∃ a, A[j]? = some a := ⟨_, List.getElem?_eq_getElem hjl⟩
      obtain ⟨f0, f1, f2, f3⟩ := flat4_get A j _ hj0
      obtain ⟨g, o, c', he, g1, g2, g3, g4⟩ := (HA.out.fr0 HF.out).cells (by omega)
      simp only [Value.slice.injEq] at he
      obtain ⟨rfl, -, rfl⟩ := he
      have k0 := g4 (j * 4) _ f0
      have k1 := g4 (j * 4 + 1) _ f1
      have k2 := g4 (j * 4 + 2) _ f2
      have k3 := g4 (j * 4 + 3) _ f3
      rw [← Nat.add_assoc] at k1 k2 k3
      obtain ⟨g', o', c'', he, g1', g2', g3', g4'⟩ := (HB.out.fr0 HF.out).cells (by omega)
      simp only [Value.slice.injEq] at he
      obtain ⟨rfl, -, rfl⟩ := he
      have m0 := g4' (j * 4) _ f0
      have m1 := g4' (j * 4 + 1) _ f1
      have m2 := g4' (j * 4 + 2) _ f2
      have m3 := g4' (j * 4 + 3) _ f3
      rw [← Nat.add_assoc] at m1 m2 m3
      simp only at k0 k1 k2 k3 m0 m1 m2 m3
      clear g4 g4' hj0 f0 f1 f2 f3
      go_wp2
      go_quiet (fail)
      go_wp2
      go_roundw
      case rel => exact ⟨j + 1, by omega, by go_num, Lib.hid (by obtain ⟨m, hm⟩ := HM.out; exact ⟨m + nq, by rw [hm, World.drewN_drewN]⟩)⟩
      case measure => simp [intOf]; omega
    · obtain rfl : j = A.length := by omega
      go_wp2
      go_ret
      exact ⟨rfl, HM.out⟩
theorem sameC_true (va vb : Value) (A : List Ct) (w : World) (hA : RC w va A) (hB : RC w vb A) (hm : A.length ≤ 9223372036854775806) :
    Calls Try.prog 17 #[va, vb] w fun e w' => e = .returned (.bool true) ∧ Fr [] w w' :=
  (sameC_q va vb A w hA hB hm).mono fun e w' ⟨h1, m, h2⟩ => ⟨h1, by rw [h2]; exact (Fr.refl _ _).drN m⟩
theorem sameH_true (va vb : Value) (A : List Ch) (w : World) (hA : RH w va A) (hB : RH w vb A) (hm : A.length ≤ 9223372036854775806) :
    Calls Try.prog 35 #[va, vb] w fun e w' => e = .returned (.bool true) ∧ Fr [] w w' :=
  (sameH_q va vb A w hA hB hm).mono fun e w' ⟨h1, m, h2⟩ => ⟨h1, by rw [h2]; exact (Fr.refl _ _).drN m⟩
/-- A slice of pushes that is read: source, number, changes' slice, changes. -/
abbrev Pu := ByteArray × Int × Value × List Ch
def flatU (l : List Pu) : List Value := l.flatMap fun x => [.string x.1, .int .u64 x.2.1, x.2.2.1]
theorem flatU_len (l : List Pu) : (flatU l).length = l.length * 3 := flatMap_len (f := fun x : Pu => [Value.string x.1, .int .u64 x.2.1, x.2.2.1]) (fun _ => rfl) l
theorem flatU_get (l : List Pu) (i : Nat) (x : Pu) (h : l[i]? = some x) : (flatU l)[i * 3]? = some (.string x.1) ∧ (flatU l)[i * 3 + 1]? = some (.int .u64 x.2.1) ∧ (flatU l)[i * 3 + 2]? = some x.2.2.1 := by
  have h1 := flatMap_at (f := fun x : Pu => [Value.string x.1, .int .u64 x.2.1, x.2.2.1]) (s := 3) (fun _ => rfl) l i x 0 h (by decide)
  have h2 := flatMap_at (f := fun x : Pu => [Value.string x.1, .int .u64 x.2.1, x.2.2.1]) (s := 3) (fun _ => rfl) l i x 1 h (by decide)
  have h3 := flatMap_at (f := fun x : Pu => [Value.string x.1, .int .u64 x.2.1, x.2.2.1]) (s := 3) (fun _ => rfl) l i x 2 h (by decide)
  exact ⟨h1, h2, h3⟩
structure RU (w : World) (v : Value) (l : List Pu) : Prop where
  rd : RD w 3 v l.length (flatU l)
  ch : ∀ x ∈ l, RH w x.2.2.1 x.2.2.2 ∧ x.2.2.2.length ≤ 9223372036854775806
def specU (l : List Pu) : List (ByteArray × Int × List Ch) := l.map fun x => (x.1, x.2.1, x.2.2.2)
theorem RU.fr0 {w w' : World} {v : Value} {l : List Pu} (h : RU w v l) (f : Fr [] w w') : RU w' v l := ⟨h.rd.fr0 f, fun x hx => ⟨(h.ch x hx).1.fr0 f, (h.ch x hx).2⟩⟩
theorem flatP_U (s : ByteArray) (q : Wq) : flatP s q = flatU (q.map fun x => (s, x.1, x.2.1, x.2.2)) := by
  unfold flatP flatU
  rw [List.flatMap_map]
theorem samePu_true (va vb : Value) (A B : List Pu) (w : World) (hA : RU w va A) (hB : RU w vb B) (he : specU A = specU B) (hm : A.length ≤ 9223372036854775806) :
    Calls Try.prog 29 #[va, vb] w fun e w' => e = .returned (.bool true) ∧ Fr [] w w' := by
  obtain ⟨aa, ac, ea⟩ := hA.rd.at_
  obtain ⟨ba, bc, eb⟩ := hB.rd.at_
  subst ea eb
  have hl : B.length = A.length := by have := congrArg List.length he; simpa [specU] using this.symm
  have HA := Lib.hid hA
  have HB := Lib.hid hB
  have HE := Lib.hid he
  have HL := Lib.hid hl
  rw [hl]
  clear hA hB he hl
  go_enter Try.func29, Try.ntmps29
  go_wp2
  go_loopw [5] (fun u wr => ∃ j : Nat, j ≤ A.length ∧ u = .int .i64 j ∧ Hid (Fr [] w wr)) (fun u _ => A.length - (intOf u).toNat)
  case atStart => exact ⟨0, by omega, rfl, Lib.hid (Fr.refl _ _)⟩
  case round =>
    obtain ⟨j, hj, rfl, HF⟩ := hrel
    by_cases hjl : j < A.length
    · obtain ⟨⟨s, n, u, c⟩, hj0⟩ : ∃ a, A[j]? = some a := ⟨_, List.getElem?_eq_getElem hjl⟩
      obtain ⟨⟨s', n', u', c'⟩, hj1⟩ : ∃ a, B[j]? = some a := ⟨_, List.getElem?_eq_getElem (by rw [HL.out]; exact hjl)⟩
      have hsp : (s, n, c) = (s', n', c') := by
        have h1 : (specU A)[j]? = some (s, n, c) := by unfold specU; rw [List.getElem?_map, hj0]; rfl
        have h2 : (specU B)[j]? = some (s', n', c') := by unfold specU; rw [List.getElem?_map, hj1]; rfl
        rw [HE.out, h2] at h1
        exact (Option.some.inj h1).symm
      simp only [Prod.mk.injEq] at hsp
      obtain ⟨rfl, rfl, rfl⟩ := hsp
      obtain ⟨f0, f1, f2⟩ := flatU_get A j _ hj0
      obtain ⟨e0, e1, e2⟩ := flatU_get B j _ hj1
      obtain ⟨r1, r1l⟩ := HA.out.ch _ (List.mem_of_getElem? hj0)
      obtain ⟨r2, _⟩ := HB.out.ch _ (List.mem_of_getElem? hj1)
      simp only at f0 f1 f2 e0 e1 e2 r1 r1l r2
      obtain ⟨ua, uc, eu⟩ := r1.at_
      obtain ⟨ua', uc', eu'⟩ := r2.at_
      subst eu eu'
      have hR1 := Lib.hid (r1.fr0 HF.out)
      have hR2 := Lib.hid (r2.fr0 HF.out)
      obtain ⟨g, o, cc, he, g1, g2, g3, g4⟩ := (HA.out.rd.fr0 HF.out).cells (by omega)
      simp only [Value.slice.injEq] at he
      obtain ⟨rfl, -, rfl⟩ := he
      have k0 := g4 (j * 3) _ f0
      have k1 := g4 (j * 3 + 1) _ f1
      have k2 := g4 (j * 3 + 2) _ f2
      rw [← Nat.add_assoc] at k1 k2
      have HBr := HB.out.rd.fr0 HF.out
      rw [HL.out] at HBr
      obtain ⟨g', o', cc', he, g1', g2', g3', g4'⟩ := HBr.cells (by omega)
      simp only [Value.slice.injEq] at he
      obtain ⟨rfl, -, rfl⟩ := he
      have m0 := g4' (j * 3) _ e0
      have m1 := g4' (j * 3 + 1) _ e1
      have m2 := g4' (j * 3 + 2) _ e2
      rw [← Nat.add_assoc] at m1 m2
      clear g4 g4' hj0 hj1 f0 f1 f2 e0 e1 e2 r1 r2 HBr
      go_wp2
      go_quiet ((go_at_call 35; exact Calls.quiet_of (sameH_q _ _ c _ (hR1.out.fr0 ((Fr.refl _ _).drN _)) (hR2.out.fr0 ((Fr.refl _ _).drN _)) r1l)))
      go_wp2
      go_roundw
      case rel => exact ⟨j + 1, by omega, by go_num, Lib.hid (HF.out.drN _)⟩
      case measure => simp [intOf]; omega
    · obtain rfl : j = A.length := by omega
      go_wp2
      go_ret
      exact ⟨rfl, HF.out⟩
end Go.Proofs.Ytmilnhicmeblhaa
