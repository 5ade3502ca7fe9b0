/- The package delta: RightChanges. -/
import Derived.Test.YtmilnhicmeblhaaRg
namespace Go.Proofs.Ytmilnhicmeblhaa
open Go.RowKit Go.Sort
set_option maxRecDepth 100000
set_option linter.unusedVariables false
set_option linter.unusedSimpArgs false
set_option maxHeartbeats 4000000
/-- Is a change of a right shape? -/
def shF (x : Ch) : Bool := if x.2.2.2 = true then (x.2.1 == 0) && !x.2.2.1 else x.2.2.1 || !(x.2.1 == 0)
def rightH (l : List Ch) : Bool := okKs none (l.map (·.1)) && l.all shF && decide (l.length ≤ 4096)
theorem rightH_sh {l : List Ch} {j : Nat} {x : Ch} (h : l[j]? = some x) (hs : shF x = false) : rightH l = false := by
  unfold rightH
  have : l.all shF = false := by rw [List.all_eq_false]; exact ⟨x, List.mem_of_getElem? h, by simp [hs]⟩
  rw [this]; simp
theorem all_take {l : List Ch} {j : Nat} {x : Ch} (h : l[j]? = some x) (h1 : (l.take j).all shF = true) (hs : shF x = true) : (l.take (j + 1)).all shF = true := by
  rw [List.take_add_one, h]
  simp [h1, hs]
theorem rightH_any (v : Value) (l : List Ch) (w : World) (h : RH w v l) (hm : l.length ≤ 9223372036854775806) :
    Calls Try.prog 18 #[v] w fun e w' => e = .returned (.bool (rightH l)) ∧ Fr [] w w' := by
  obtain ⟨A, c, rfl⟩ := h.at_
  have H := Lib.hid h
  clear h
  go_enter Try.func18, Try.ntmps18
  go_wp2
  go_loopw [7] (fun u wr => ∃ j : Nat, j ≤ l.length ∧ u = .int .i64 j ∧ Hid (okKs none ((l.map (·.1)).take j) = true ∧ (l.take j).all shF = true) ∧ Hid (Fr [] w wr)) (fun u _ => l.length - (intOf u).toNat)
  case atStart => exact ⟨0, by omega, rfl, Lib.hid ⟨rfl, rfl⟩, Lib.hid (Fr.refl _ _)⟩
  case round =>
    obtain ⟨j, hj, rfl, HOK, HF⟩ := hrel
    by_cases hjl : j < l.length
    · obtain ⟨⟨s, n, r, gn⟩, hj0⟩ : ∃ a, l[j]? = some a := ⟨_, List.getElem?_eq_getElem hjl⟩
      obtain ⟨g, o, c', he, g1, g2, g3, g4⟩ := (H.out.fr0 HF.out).cells (by omega)
      simp only [Value.slice.injEq] at he
      obtain ⟨rfl, -, rfl⟩ := he
      obtain ⟨f0, f1, f2, f3⟩ := flat4_get l j _ hj0
      have k0 := g4 (j * 4) _ f0
      have k1 := g4 (j * 4 + 1) _ f1
      have k2 := g4 (j * 4 + 2) _ f2
      have k3 := g4 (j * 4 + 3) _ f3
      rw [← Nat.add_assoc] at k1 k2 k3
      simp only at k0 k1 k2 k3
      have hb := Blk.new wr #[.string s, .int .u64 n, .bool r, .bool gn] 34
      have hbc := hb.cell
      have hbl := hb.lt
      have hks : (l.map (·.1))[j]? = some s := by rw [List.getElem?_map, hj0]; rfl
      have hdrop := okKs_drop none _ j _ hks
      have htake := okKs_take none _ j _ hks
      have HJ := Lib.hid hj0
      clear hj0 hb hks f0 f1 f2 f3
      cases hk : keyF s with
      | false =>
        have HQ := Lib.hid (key_q s false hk)
        have hr : rightH l = false := by unfold rightH; rw [hdrop]; simp [okP, hk]
        have HR := Lib.hid hr
        clear hr hdrop htake hk g4
        go_wp2_with ((go_at_call 46); (with_reducible refine (HQ.out _).mono ?_); rintro e w1 ⟨rfl, rfl⟩)
        go_ret
        exact ⟨by rw [HR.out]; rfl, HF.out.alloc _⟩
      | true =>
        have HQ := Lib.hid (key_q s true hk)
        cases j with
        | zero =>
          simp only [Nat.zero_mul, Nat.add_zero, Nat.zero_add] at k0 k1 k2 k3
          by_cases hn : n = 0
          · subst hn
            cases gn with
            | true =>
              cases r with
              | true =>
                have hr : rightH l = false := rightH_sh HJ.out (by simp [shF])
                have HR := Lib.hid hr
                clear hr hdrop htake hk g4
                go_wp2_with ((go_at_call 46); (with_reducible refine (HQ.out _).mono ?_); rintro e w1 ⟨rfl, rfl⟩)
                go_quiet (fail)
                go_wp2
                go_ret
                exact ⟨by rw [HR.out]; rfl, (HF.out.alloc _).drN _⟩
              | false =>
                have ht : okKs none ((l.map (·.1)).take (0 + 1)) = true := by rw [htake]; simp [okKs, okP, hk]
                have HT := Lib.hid (And.intro ht (all_take HJ.out HOK.out.2 (by simp [shF])))
                clear ht hdrop htake hk g4
                go_wp2_with ((go_at_call 46); (with_reducible refine (HQ.out _).mono ?_); rintro e w1 ⟨rfl, rfl⟩)
                go_quiet (fail)
                go_wp2
                go_roundw
                case rel => exact ⟨1, by omega, by go_num, HT, Lib.hid ((HF.out.alloc _).drN _)⟩
                case measure => simp [intOf]; omega
            | false =>
              cases r with
              | true =>
                have ht : okKs none ((l.map (·.1)).take (0 + 1)) = true := by rw [htake]; simp [okKs, okP, hk]
                have HT := Lib.hid (And.intro ht (all_take HJ.out HOK.out.2 (by simp [shF])))
                clear ht hdrop htake hk g4
                go_wp2_with ((go_at_call 46); (with_reducible refine (HQ.out _).mono ?_); rintro e w1 ⟨rfl, rfl⟩)
                go_quiet (fail)
                go_wp2
                go_roundw
                case rel => exact ⟨1, by omega, by go_num, HT, Lib.hid ((HF.out.alloc _).drN _)⟩
                case measure => simp [intOf]; omega
              | false =>
                have hr : rightH l = false := rightH_sh HJ.out (by simp [shF])
                have HR := Lib.hid hr
                clear hr hdrop htake hk g4
                go_wp2_with ((go_at_call 46); (with_reducible refine (HQ.out _).mono ?_); rintro e w1 ⟨rfl, rfl⟩)
                go_quiet (fail)
                go_wp2
                go_ret
                exact ⟨by rw [HR.out]; rfl, (HF.out.alloc _).drN _⟩
          · have hn2 : (n == 0) = false := by simpa using hn
            cases gn with
            | true =>
              have hr : rightH l = false := rightH_sh HJ.out (by simp [shF, hn])
              have HR := Lib.hid hr
              clear hr hdrop htake hk g4
              go_wp2_with ((go_at_call 46); (with_reducible refine (HQ.out _).mono ?_); rintro e w1 ⟨rfl, rfl⟩)
              go_quiet (fail)
              go_wp2
              go_ret
              exact ⟨by rw [HR.out]; rfl, (HF.out.alloc _).drN _⟩
            | false =>
              cases r with
              | true =>
                have ht : okKs none ((l.map (·.1)).take (0 + 1)) = true := by rw [htake]; simp [okKs, okP, hk]
                have HT := Lib.hid (And.intro ht (all_take HJ.out HOK.out.2 (by simp [shF])))
                clear ht hdrop htake hk g4
                go_wp2_with ((go_at_call 46); (with_reducible refine (HQ.out _).mono ?_); rintro e w1 ⟨rfl, rfl⟩)
                go_quiet (fail)
                go_wp2
                go_roundw
                case rel => exact ⟨1, by omega, by go_num, HT, Lib.hid ((HF.out.alloc _).drN _)⟩
                case measure => simp [intOf]; omega
              | false =>
                have ht : okKs none ((l.map (·.1)).take (0 + 1)) = true := by rw [htake]; simp [okKs, okP, hk]
                have HT := Lib.hid (And.intro ht (all_take HJ.out HOK.out.2 (by simp [shF, hn])))
                clear ht hdrop htake hk g4
                go_wp2_with ((go_at_call 46); (with_reducible refine (HQ.out _).mono ?_); rintro e w1 ⟨rfl, rfl⟩)
                go_quiet (fail)
                go_wp2
                go_roundw
                case rel => exact ⟨1, by omega, by go_num, HT, Lib.hid ((HF.out.alloc _).drN _)⟩
                case measure => simp [intOf]; omega
        | succ j =>
          obtain ⟨⟨sp, np, rp, gp⟩, hp0⟩ : ∃ a, l[j]? = some a := ⟨_, List.getElem?_eq_getElem (by omega)⟩
          have m0 := g4 (j * 4) _ (flat4_get l j _ hp0).1
          simp only at m0
          have hpe : (l.map (·.1))[j + 1 - 1]? = some sp := by rw [List.getElem?_map]; simp [hp0]
          have hj1 : (0 : Int) < (j : Int) + 1 := by omega
          have hd1 : decide ((0 : Int) < (j : Int) + 1) = true := by first | (simp; done) | (simp; omega)
          rw [if_neg (by omega), hpe] at hdrop htake
          clear hp0 hpe
          cases hlt : Op.bytesLess sp.toList s.toList with
          | true =>
            by_cases hn : n = 0
            · subst hn
              cases gn with
              | true =>
                cases r with
                | true =>
                  have hr : rightH l = false := rightH_sh HJ.out (by simp [shF])
                  have HR := Lib.hid hr
                  clear hr hdrop htake hk g4
                  go_wp2_with ((go_at_call 46); (with_reducible refine (HQ.out _).mono ?_); rintro e w1 ⟨rfl, rfl⟩)
                  go_quiet (fail)
                  go_wp2
                  go_ret
                  exact ⟨by rw [HR.out]; rfl, (HF.out.alloc _).drN _⟩
                | false =>
                  have ht : okKs none ((l.map (·.1)).take (j + 1 + 1)) = true := by rw [htake, HOK.out.1]; simp [okKs, okP, hk, hlt]
                  have HT := Lib.hid (And.intro ht (all_take HJ.out HOK.out.2 (by simp [shF])))
                  clear ht hdrop htake hk g4
                  go_wp2_with ((go_at_call 46); (with_reducible refine (HQ.out _).mono ?_); rintro e w1 ⟨rfl, rfl⟩)
                  go_quiet (fail)
                  go_wp2
                  go_roundw
                  case rel => exact ⟨j + 1 + 1, by omega, by go_num, HT, Lib.hid ((HF.out.alloc _).drN _)⟩
                  case measure => simp [intOf]; omega
              | false =>
                cases r with
                | true =>
                  have ht : okKs none ((l.map (·.1)).take (j + 1 + 1)) = true := by rw [htake, HOK.out.1]; simp [okKs, okP, hk, hlt]
                  have HT := Lib.hid (And.intro ht (all_take HJ.out HOK.out.2 (by simp [shF])))
                  clear ht hdrop htake hk g4
                  go_wp2_with ((go_at_call 46); (with_reducible refine (HQ.out _).mono ?_); rintro e w1 ⟨rfl, rfl⟩)
                  go_quiet (fail)
                  go_wp2
                  go_roundw
                  case rel => exact ⟨j + 1 + 1, by omega, by go_num, HT, Lib.hid ((HF.out.alloc _).drN _)⟩
                  case measure => simp [intOf]; omega
                | false =>
                  have hr : rightH l = false := rightH_sh HJ.out (by simp [shF])
                  have HR := Lib.hid hr
                  clear hr hdrop htake hk g4
                  go_wp2_with ((go_at_call 46); (with_reducible refine (HQ.out _).mono ?_); rintro e w1 ⟨rfl, rfl⟩)
                  go_quiet (fail)
                  go_wp2
                  go_ret
                  exact ⟨by rw [HR.out]; rfl, (HF.out.alloc _).drN _⟩
            · have hn2 : (n == 0) = false := by simpa using hn
              cases gn with
              | true =>
                have hr : rightH l = false := rightH_sh HJ.out (by simp [shF, hn])
                have HR := Lib.hid hr
                clear hr hdrop htake hk g4
                go_wp2_with ((go_at_call 46); (with_reducible refine (HQ.out _).mono ?_); rintro e w1 ⟨rfl, rfl⟩)
                go_quiet (fail)
                go_wp2
                go_ret
                exact ⟨by rw [HR.out]; rfl, (HF.out.alloc _).drN _⟩
              | false =>
                cases r with
                | true =>
                  have ht : okKs none ((l.map (·.1)).take (j + 1 + 1)) = true := by rw [htake, HOK.out.1]; simp [okKs, okP, hk, hlt]
                  have HT := Lib.hid (And.intro ht (all_take HJ.out HOK.out.2 (by simp [shF])))
                  clear ht hdrop htake hk g4
                  go_wp2_with ((go_at_call 46); (with_reducible refine (HQ.out _).mono ?_); rintro e w1 ⟨rfl, rfl⟩)
                  go_quiet (fail)
                  go_wp2
                  go_roundw
                  case rel => exact ⟨j + 1 + 1, by omega, by go_num, HT, Lib.hid ((HF.out.alloc _).drN _)⟩
                  case measure => simp [intOf]; omega
                | false =>
                  have ht : okKs none ((l.map (·.1)).take (j + 1 + 1)) = true := by rw [htake, HOK.out.1]; simp [okKs, okP, hk, hlt]
                  have HT := Lib.hid (And.intro ht (all_take HJ.out HOK.out.2 (by simp [shF, hn])))
                  clear ht hdrop htake hk g4
                  go_wp2_with ((go_at_call 46); (with_reducible refine (HQ.out _).mono ?_); rintro e w1 ⟨rfl, rfl⟩)
                  go_quiet (fail)
                  go_wp2
                  go_roundw
                  case rel => exact ⟨j + 1 + 1, by omega, by go_num, HT, Lib.hid ((HF.out.alloc _).drN _)⟩
                  case measure => simp [intOf]; omega
          | false =>
            have hr : rightH l = false := by unfold rightH; rw [hdrop]; simp [okP, hk, hlt]
            have HR := Lib.hid hr
            clear hr hdrop htake hk g4
            go_wp2_with ((go_at_call 46); (with_reducible refine (HQ.out _).mono ?_); rintro e w1 ⟨rfl, rfl⟩)
            go_quiet (fail)
            go_wp2
            go_ret
            exact ⟨by rw [HR.out]; rfl, (HF.out.alloc _).drN _⟩
    · obtain rfl : j = l.length := by omega
      have hr : rightH l = decide (l.length ≤ 4096) := by
        unfold rightH
        have h1 := HOK.out.1
        have h2 := HOK.out.2
        rw [List.take_of_length_le (by simp)] at h1
        rw [List.take_length] at h2
        rw [h1, h2]; simp
      have HR := Lib.hid hr
      clear hr
      by_cases h4 : l.length ≤ 4096
      · have h4i : (l.length : Int) ≤ 4096 := by omega
        go_wp2
        go_ret
        exact ⟨by rw [HR.out]; simp [h4], HF.out⟩
      · have h4i : ¬ (l.length : Int) ≤ 4096 := by omega
        go_wp2
        go_ret
        exact ⟨by rw [HR.out]; simp [h4]; try omega, HF.out⟩
end Go.Proofs.Ytmilnhicmeblhaa
