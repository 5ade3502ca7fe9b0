/- The law DeltaJoins: little. -/
import Derived.Test.YtmilnhicmeblhaaSc
import Derived.Test.YtmilnhicmeblhaaJo
namespace Go.Proofs.Ytmilnhicmeblhaa
open Go.RowKit Go.Sort
set_option maxRecDepth 100000
set_option linter.unusedVariables false
set_option linter.unusedSimpArgs false
set_option maxHeartbeats 4000000
theorem little_at {l : List Ch} {j : Nat} {x : Ch} (h : l[j]? = some x) (hx : ¬ x.2.1 < 4611686018427387904) : little l = false := by
  unfold little
  rw [List.all_eq_false]
  exact ⟨x, List.mem_of_getElem? h, by simpa using hx⟩
theorem little_any (v : Value) (l : List Ch) (w : World) (h : RH w v l) (hm : l.length ≤ 9223372036854775806) :
    Calls Try.prog 40 #[v] w fun e w' => e = .returned (.bool (little l)) ∧ w' = w := by
  obtain ⟨aa, ac, ea⟩ := h.at_
  subst ea
  have H := Lib.hid h
  clear h
  go_enter Try.func40, Try.ntmps40
  go_wp2
  go_loop [3] (fun u => ∃ j : Nat, j ≤ l.length ∧ u = .int .i64 j ∧ Hid (little (l.take j) = true)) (fun u => l.length - (intOf u).toNat)
  case atStart => exact ⟨0, by omega, rfl, Lib.hid rfl⟩
  case round =>
    obtain ⟨j, hj, rfl, HLT⟩ := hrel
    by_cases hjl : j < l.length
    · obtain ⟨⟨s, n, r, gn⟩, hj0⟩ : ∃ a, l[j]? = some a := ⟨_, List.getElem?_eq_getElem hjl⟩
      obtain ⟨g, o, c', he, g1, g2, g3, g4⟩ := H.out.cells (by omega)
      simp only [Value.slice.injEq] at he
      obtain ⟨rfl, -, rfl⟩ := he
      have k1 := g4 (j * 4 + 1) _ (flat4_get l j _ hj0).2.1
      rw [← Nat.add_assoc] at k1
      simp only at k1
      by_cases hn : n < 4611686018427387904
      · have ht : little (l.take (j + 1)) = true := by
          unfold little
          rw [List.take_add_one, hj0, List.all_append]
          have := HLT.out
          unfold little at this
          rw [this]
          simpa using hn
        have HT := Lib.hid ht
        have hn' : ¬ 4611686018427387904 ≤ n := by omega
        clear ht g4 hj0 hn
        go_wp2
        go_round
        case rel => exact ⟨j + 1, by omega, by go_num, HT⟩
        case measure => simp [intOf]; omega
      · have ht := little_at hj0 hn
        have HT := Lib.hid ht
        have hn' : 4611686018427387904 ≤ n := by omega
        clear ht g4 hj0 hn
        go_wp2
        go_ret
        exact ⟨by rw [HT.out]; rfl, rfl⟩
    · obtain rfl : j = l.length := by omega
      have := HLT.out
      rw [List.take_length] at this
      have HT := Lib.hid this
      clear this
      go_wp2
      go_ret
      exact ⟨by rw [HT.out]; rfl, rfl⟩
end Go.Proofs.Ytmilnhicmeblhaa
