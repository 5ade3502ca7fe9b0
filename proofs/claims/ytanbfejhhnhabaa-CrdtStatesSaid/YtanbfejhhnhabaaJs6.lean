/- The reference's below. -/
import Derived.Test.YtanbfejhhnhabaaJs5
import Derived.Test.YtanbfejhhnhabaaJs4
/- The reference's find and Name, as contracts. -/
namespace Go.Proofs.Ytanbfejhhnhabaa
open Go.RowKit Go.Maps
open Go.Proofs.Ytanbfejhhnhabaa.PCrdtCounts
open Go.Proofs.YtanbfejhhnhabaaW.PrintWords
set_option maxRecDepth 100000
set_option linter.unusedVariables false
set_option linter.unusedSimpArgs false
set_option maxHeartbeats 1000000
theorem find_any (v : Value) (l : List Nd) (s : ByteArray) (w : World) (h : RN w v l) :
    Calls Try.prog 32 #[v, .string s] w fun e w' => e = .returned (.tuple #[ndV s (ofL l s).1 (ofL l s).2, .bool (lk l s).isSome]) ∧ Fr [] w w' := by
  obtain ⟨p1, q1, rfl⟩ := h.at_
  obtain ⟨-, c1, m1, K1⟩ := CC.RD.kdN h
  have hc := abacusref23_find.calls (l.length + 1) p1 q1 (l.map CC.toS) s s (ofL l s).1 (ofL l s).2 (lk l s).isSome w K1 (by simpa using c1) (CC.find_f l s m1)
  simp only [List.length_map] at hc
  refine hc.mono ?_
  rintro e w' ⟨rfl, hd⟩
  exact ⟨rfl, Fr.of_below hd⟩
theorem letter_f (c : Int) : abacusref12_letter.f c = some (letterF c) := by
  unfold abacusref12_letter.f letterF
  by_cases h1 : 97 ≤ c
  · rw [if_pos (by omega)]
    by_cases h2 : c ≤ 122
    · rw [if_pos h2]; simp [h1, h2]
    · rw [if_neg h2, if_pos (by omega), if_neg (by omega)]
      simp [h2]
      omega
  · rw [if_neg (by omega)]
    by_cases h3 : 65 ≤ c
    · rw [if_pos (by omega)]
      by_cases h4 : c ≤ 90
      · rw [if_pos h4]; simp [h3, h4]
      · rw [if_neg h4]; simp [h1, h4]
    · rw [if_neg (by omega)]; simp [h1, h3]
theorem digit_f (c : Int) : abacusref12_digit.f c = some (decide (48 ≤ c) && decide (c ≤ 57)) := by
  unfold abacusref12_digit.f
  by_cases h1 : 48 ≤ c
  · rw [if_pos (by omega)]; simp [h1]
  · rw [if_neg (by omega)]; simp [h1]
theorem bt_gb (s : ByteArray) (j : Nat) : bt s (j : Int) = gb s j := by simp [bt, gb]
theorem name_l0 (s : ByteArray) (h64 : s.size ≤ 64) : ∀ (k j : Nat), j ≤ s.size → s.size - j < k → upto s j = true → abacusref12_Name.l0 k s (j : Int) = some (upto s s.size) := by
  intro k
  induction k with
  | zero => intro j _ h; omega
  | succ k ih =>
    intro j hj hk hu
    simp only [abacusref12_Name.l0]
    by_cases h : j < s.size
    · rw [if_pos (by omega), if_pos (by omega), bt_gb, letter_f, digit_f, w64 (by omega)]
      simp only [Option.bind_some]
      have hs := upto_succ s j
      rw [hu] at hs
      by_cases h1 : letterF (gb s j) = true
      · rw [if_pos h1]
        exact ih (j + 1) (by omega) (by omega) (by rw [hs]; simp [namedF, h1])
      · rw [if_neg h1]
        by_cases h2 : (decide (48 ≤ gb s j) && decide (gb s j ≤ 57)) = true
        · rw [if_pos h2]
          exact ih (j + 1) (by omega) (by omega) (by rw [hs]; unfold namedF; rw [h2]; simp)
        · rw [if_neg h2, upto_fail s s.size j h (by
            unfold namedF
            rw [Bool.eq_false_iff.2 h1, Bool.eq_false_iff.2 h2]; rfl)]
    · obtain rfl : j = s.size := by omega
      rw [if_neg (by omega), hu]
theorem name12_f (s : ByteArray) : abacusref12_Name.f (s.size + 3) s = some (nameF s) := by
  unfold abacusref12_Name.f
  have jt : abacusref12_Name.j0 (s.size + 3) s true = some false := by
    rw [show s.size + 3 = (s.size + 2) + 1 by omega]
    simp [abacusref12_Name.j0]
  by_cases h1 : s.size < 1
  · have e : nameF s = false := by unfold nameF; simp; omega
    rw [if_pos (by omega), jt, e]
  · rw [if_neg (by omega)]
    by_cases h2 : 64 < s.size
    · have e : nameF s = false := by unfold nameF; simp; omega
      rw [if_pos (by omega), jt, e]
    · rw [if_neg (by omega), if_pos (by omega)]
      have hb := bt_gb s 0
      have hb2 : bt s 0 = gb s 0 := hb
      rw [hb2, letter_f]
      simp only [Option.bind_some]
      cases h3 : letterF (gb s 0) with
      | false =>
        have e : nameF s = false := by unfold nameF; rw [h3]; simp
        rw [e]
        exact jt
      | true =>
        have h0 := name_l0 s (by omega) (s.size + 2) 0 (by omega) (by omega) rfl
        have e : nameF s = upto s s.size := by unfold nameF; rw [h3]; simp; omega
        rw [e, show s.size + 3 = (s.size + 2) + 1 by omega]
        simp only [abacusref12_Name.j0, Bool.not_true, Bool.false_eq_true, if_false]
        exact h0
theorem name12_any (s : ByteArray) (w : World) :
    Calls Try.prog 48 #[.string s] w fun e w' => e = .returned (.bool (nameF s)) ∧ Fr [] w w' := by
  refine (abacusref12_Name.calls (s.size + 3) s (nameF s) w (name12_f s)).mono ?_
  rintro e w' ⟨rfl, hd⟩
  exact ⟨rfl, drawn_fr hd⟩
end Go.Proofs.Ytanbfejhhnhabaa

/- The reference's Right. -/
namespace Go.Proofs.Ytanbfejhhnhabaa
open Go.RowKit Go.Maps Go.Sort
set_option maxRecDepth 100000
set_option linter.unusedVariables false
set_option linter.unusedSimpArgs false
set_option maxHeartbeats 8000000
theorem name12_q (s : ByteArray) (b : Bool) (h : nameF s = b) : ∀ W : World, Calls Try.prog 48 #[.string s] W fun e w' => e = .returned (.bool b) ∧ ∃ m, w' = W.drewN m := fun W => by
  refine (Go.Proofs.Ytanbfejhhnhabaa.PCrdtCounts.abacusref12_Name.calls (s.size + 3) s (nameF s) W (name12_f s)).mono ?_
  rintro e w' ⟨rfl, hd⟩
  obtain ⟨m, hm⟩ := hd
  exact ⟨by rw [h], m, hm⟩
theorem right_any (v : Value) (l : List Nd) (w : World) (h : RN w v l) (hs : ∀ a ∈ l, a.1.size ≤ maxLen) (hz : ∀ a ∈ l, 0 ≤ a.2.1 ∧ 0 ≤ a.2.2) (hm : l.length ≤ 9223372036854775806) :
    Calls Try.prog 27 #[v] w fun e w' => e = .returned (.bool (rightL l)) ∧ Fr [] w w' := by
  obtain ⟨A, c, rfl⟩ := h.at_
  have H := Lib.hid h
  have HS := Lib.hid hs
  have HZ := Lib.hid hz
  clear h hs hz
  by_cases hl : l.length ≤ 64
  · have hl' : ¬ 64 < (l.length : Int) := by omega
    go_enter Try.func27, Try.ntmps27
    go_wp2
    go_loopw [10] (fun u wr => ∃ j : Nat, j ≤ l.length ∧ u = .int .i64 j ∧ okL none (l.take j) = true ∧ Fr [] w wr) (fun u _ => l.length - (intOf u).toNat)
    case atStart => exact ⟨0, by omega, rfl, rfl, Fr.refl _ _⟩
    case round =>
      obtain ⟨j, hj, rfl, hok, hF⟩ := hrel
      have HOK := Lib.hid hok
      clear hok
      by_cases hjl : j < l.length
      · obtain ⟨⟨s, u, d⟩, hj0⟩ : ∃ a, l[j]? = some a := ⟨_, List.getElem?_eq_getElem hjl⟩
        obtain ⟨g, o, c', he, g1, g2, g3, g4⟩ := (H.out.fr0 hF).cells (by omega)
        simp only [Value.slice.injEq] at he
        obtain ⟨rfl, -, rfl⟩ := he
        have k0 := g4 (j * 3) _ (flat3_get l j _ hj0).1
        have k1 := g4 (j * 3 + 1) _ (flat3_get l j _ hj0).2.1
        have k2 := g4 (j * 3 + 2) _ (flat3_get l j _ hj0).2.2
        rw [← Nat.add_assoc] at k1 k2
        simp only at k0 k1 k2
        obtain ⟨hu0, hd0⟩ := HZ.out _ (List.mem_of_getElem? hj0)
        simp only at hu0 hd0
        have hb := Blk.new wr #[.string s, .int .u64 u, .int .u64 d] 33
        have hbc := hb.cell
        have hbl := hb.lt
        have hfail := okL_fail hj0
        have htake := okL_take none l j _ hj0
        have HJ := Lib.hid hj0
        have HF := Lib.hid hF
        clear hj0 hF
        by_cases hnm : nameF s = true
        · have HNQ := Lib.hid (name12_q s true hnm)
          cases j with
          | zero =>
            simp only [Nat.zero_mul, Nat.add_zero] at k0 k1 k2
            by_cases hu : 72057594037927936 < u
            · have hu' : decide (72057594037927936 < u) = true := by simpa using hu
              have hu2 : ¬ u ≤ 72057594037927936 := by omega
              have HFL := Lib.hid (hfail (by rw [if_pos rfl] <;> simp [okN, hnm, hu2]))
              clear hfail htake
              go_wp2_with fail
              (go_quiet ((go_at_call 48; exact Calls.quiet_of (HNQ.out _))))
              go_wp2
              go_ret
              refine ⟨by rw [HFL.out]; rfl, (HF.out.alloc _).drN _⟩
            · have hu' : decide (72057594037927936 < u) = false := by simpa using hu
              have hu2 : u ≤ 72057594037927936 := by omega
              by_cases hd : 72057594037927936 < d
              · have hd' : decide (72057594037927936 < d) = true := by simpa using hd
                have hd2 : ¬ d ≤ 72057594037927936 := by omega
                have HFL := Lib.hid (hfail (by rw [if_pos rfl] <;> simp [okN, hnm, hu2, hd2]))
                clear hfail htake
                go_wp2_with fail
                (go_quiet ((go_at_call 48; exact Calls.quiet_of (HNQ.out _))))
                go_wp2
                go_ret
                refine ⟨by rw [HFL.out]; rfl, (HF.out.alloc _).drN _⟩
              · have hd' : decide (72057594037927936 < d) = false := by simpa using hd
                have hd2 : d ≤ 72057594037927936 := by omega
                by_cases hu3 : u = 0
                · subst hu3
                  by_cases hd3 : d = 0
                  · subst hd3
                    have HFL := Lib.hid (hfail (by rw [if_pos rfl] <;> simp [okN, hnm]))
                    clear hfail htake
                    go_wp2_with fail
                    (go_quiet ((go_at_call 48; exact Calls.quiet_of (HNQ.out _))))
                    go_wp2
                    go_ret
                    refine ⟨by rw [HFL.out]; rfl, (HF.out.alloc _).drN _⟩
                  · have hd4 : (d == 0) = false := by simpa using hd3
                    have ht2 : okL none (l.take (0 + 1)) = true := by
                      rw [htake, HOK.out, if_pos rfl]
                      simp [okN, hnm, hd2, hd3]
                    have HT := Lib.hid ht2
                    clear hfail htake ht2
                    go_wp2_with fail
                    (go_quiet ((go_at_call 48; exact Calls.quiet_of (HNQ.out _))))
                    go_wp2
                    go_roundw
                    case rel => exact ⟨1, by omega, by go_num, HT.out, (HF.out.alloc _).drN _⟩
                    case measure => simp [intOf]; omega
                · have hu4 : (u == 0) = false := by simpa using hu3
                  have ht2 : okL none (l.take (0 + 1)) = true := by
                    rw [htake, HOK.out, if_pos rfl]
                    simp [okN, hnm, hu2, hd2, hu3]
                  have HT := Lib.hid ht2
                  clear hfail htake ht2
                  go_wp2_with fail
                  (go_quiet ((go_at_call 48; exact Calls.quiet_of (HNQ.out _))))
                  go_wp2
                  go_roundw
                  case rel => exact ⟨1, by omega, by go_num, HT.out, (HF.out.alloc _).drN _⟩
                  case measure => simp [intOf]; omega
          | succ j =>
            obtain ⟨⟨sp, up, dp⟩, hp0⟩ : ∃ a, l[j]? = some a := ⟨_, List.getElem?_eq_getElem (by omega)⟩
            have m0 := g4 (j * 3) _ (flat3_get l j _ hp0).1
            simp only at m0
            have hpe : Option.map (fun x : Nd => x.1) l[j + 1 - 1]? = some sp := by simp [hp0]
            have hj1 : (0 : Int) < (j : Int) + 1 := by omega
            have hd1 : decide ((0 : Int) < (j : Int) + 1) = true := by first | (simp; done) | (simp; omega)
            by_cases hlt : Op.bytesLess sp.toList s.toList = true
            · by_cases hu : 72057594037927936 < u
              · have hu' : decide (72057594037927936 < u) = true := by simpa using hu
                have hu2 : ¬ u ≤ 72057594037927936 := by omega
                have HFL := Lib.hid (hfail (by rw [if_neg (by omega)] <;> simp [okN, hnm, hp0, hlt, hu2]))
                clear hfail htake
                go_wp2_with fail
                (go_quiet ((go_at_call 48; exact Calls.quiet_of (HNQ.out _))))
                go_wp2
                go_ret
                refine ⟨by rw [HFL.out]; rfl, (HF.out.alloc _).drN _⟩
              · have hu' : decide (72057594037927936 < u) = false := by simpa using hu
                have hu2 : u ≤ 72057594037927936 := by omega
                by_cases hd : 72057594037927936 < d
                · have hd' : decide (72057594037927936 < d) = true := by simpa using hd
                  have hd2 : ¬ d ≤ 72057594037927936 := by omega
                  have HFL := Lib.hid (hfail (by rw [if_neg (by omega)] <;> simp [okN, hnm, hp0, hlt, hu2, hd2]))
                  clear hfail htake
                  go_wp2_with fail
                  (go_quiet ((go_at_call 48; exact Calls.quiet_of (HNQ.out _))))
                  go_wp2
                  go_ret
                  refine ⟨by rw [HFL.out]; rfl, (HF.out.alloc _).drN _⟩
                · have hd' : decide (72057594037927936 < d) = false := by simpa using hd
                  have hd2 : d ≤ 72057594037927936 := by omega
                  by_cases hu3 : u = 0
                  · subst hu3
                    by_cases hd3 : d = 0
                    · subst hd3
                      have HFL := Lib.hid (hfail (by rw [if_neg (by omega)] <;> simp [okN, hnm, hp0, hlt]))
                      clear hfail htake
                      go_wp2_with fail
                      (go_quiet ((go_at_call 48; exact Calls.quiet_of (HNQ.out _))))
                      go_wp2
                      go_ret
                      refine ⟨by rw [HFL.out]; rfl, (HF.out.alloc _).drN _⟩
                    · have hd4 : (d == 0) = false := by simpa using hd3
                      have ht2 : okL none (l.take (j + 1 + 1)) = true := by
                        rw [htake, HOK.out, if_neg (by omega)]
                        simp [okN, hnm, hp0, hlt, hd2, hd3]
                      have HT := Lib.hid ht2
                      clear hfail htake ht2
                      go_wp2_with fail
                      (go_quiet ((go_at_call 48; exact Calls.quiet_of (HNQ.out _))))
                      go_wp2
                      go_roundw
                      case rel => exact ⟨j + 1 + 1, by omega, by go_num, HT.out, (HF.out.alloc _).drN _⟩
                      case measure => simp [intOf]; omega
                  · have hu4 : (u == 0) = false := by simpa using hu3
                    have ht2 : okL none (l.take (j + 1 + 1)) = true := by
                      rw [htake, HOK.out, if_neg (by omega)]
                      simp [okN, hnm, hp0, hlt, hu2, hd2, hu3]
                    have HT := Lib.hid ht2
                    clear hfail htake ht2
                    go_wp2_with fail
                    (go_quiet ((go_at_call 48; exact Calls.quiet_of (HNQ.out _))))
                    go_wp2
                    go_roundw
                    case rel => exact ⟨j + 1 + 1, by omega, by go_num, HT.out, (HF.out.alloc _).drN _⟩
                    case measure => simp [intOf]; omega
            · have hlt' : Op.bytesLess sp.toList s.toList = false := by simpa using hlt
              by_cases hu : 72057594037927936 < u
              · have hu' : decide (72057594037927936 < u) = true := by simpa using hu
                have HFL := Lib.hid (hfail (by rw [if_neg (by omega)] <;> simp [okN, hp0, hlt']))
                clear hfail htake
                go_wp2_with fail
                (go_quiet ((go_at_call 48; exact Calls.quiet_of (HNQ.out _))))
                go_wp2
                go_ret
                refine ⟨by rw [HFL.out]; rfl, (HF.out.alloc _).drN _⟩
              · have hu' : decide (72057594037927936 < u) = false := by simpa using hu
                by_cases hd : 72057594037927936 < d
                · have hd' : decide (72057594037927936 < d) = true := by simpa using hd
                  have HFL := Lib.hid (hfail (by rw [if_neg (by omega)] <;> simp [okN, hp0, hlt']))
                  clear hfail htake
                  go_wp2_with fail
                  (go_quiet ((go_at_call 48; exact Calls.quiet_of (HNQ.out _))))
                  go_wp2
                  go_ret
                  refine ⟨by rw [HFL.out]; rfl, (HF.out.alloc _).drN _⟩
                · have hd' : decide (72057594037927936 < d) = false := by simpa using hd
                  by_cases hu3 : u = 0
                  · subst hu3
                    by_cases hd3 : d = 0
                    · subst hd3
                      have HFL := Lib.hid (hfail (by rw [if_neg (by omega)] <;> simp [okN, hp0, hlt']))
                      clear hfail htake
                      go_wp2_with fail
                      (go_quiet ((go_at_call 48; exact Calls.quiet_of (HNQ.out _))))
                      go_wp2
                      go_ret
                      refine ⟨by rw [HFL.out]; rfl, (HF.out.alloc _).drN _⟩
                    · have hd4 : (d == 0) = false := by simpa using hd3
                      have HFL := Lib.hid (hfail (by rw [if_neg (by omega)] <;> simp [okN, hp0, hlt']))
                      clear hfail htake
                      go_wp2_with fail
                      (go_quiet ((go_at_call 48; exact Calls.quiet_of (HNQ.out _))))
                      go_wp2
                      go_ret
                      refine ⟨by rw [HFL.out]; rfl, (HF.out.alloc _).drN _⟩
                  · have hu4 : (u == 0) = false := by simpa using hu3
                    have HFL := Lib.hid (hfail (by rw [if_neg (by omega)] <;> simp [okN, hp0, hlt']))
                    clear hfail htake
                    go_wp2_with fail
                    (go_quiet ((go_at_call 48; exact Calls.quiet_of (HNQ.out _))))
                    go_wp2
                    go_ret
                    refine ⟨by rw [HFL.out]; rfl, (HF.out.alloc _).drN _⟩
        · have hnm' : nameF s = false := by simpa using hnm
          have HNQ := Lib.hid (name12_q s false hnm')
          have HFL := Lib.hid (hfail (by simp [okN, hnm']))
          clear hfail htake
          go_wp2_with fail
          (go_quiet ((go_at_call 48; exact Calls.quiet_of (HNQ.out _))))
          go_wp2
          go_ret
          refine ⟨by rw [HFL.out]; rfl, (HF.out.alloc _).drN _⟩
      · obtain rfl : j = l.length := by omega
        have e : rightL l = true := by
          unfold rightL
          have := HOK.out
          rw [List.take_length] at this
          simp [this, hl]
        have E := Lib.hid e
        clear e
        go_wp2
        go_ret
        exact ⟨by rw [E.out]; rfl, hF⟩
  · have hl' : 64 < (l.length : Int) := by omega
    have e : rightL l = false := by unfold rightL; simp [hl]
    have E := Lib.hid e
    clear e
    go_enter Try.func27, Try.ntmps27
    go_wp2
    go_ret
    exact ⟨by rw [E.out]; rfl, Fr.refl _ _⟩
end Go.Proofs.Ytanbfejhhnhabaa

namespace Go.Proofs.Ytanbfejhhnhabaa
open Go.RowKit Go.Maps Go.Sort
set_option maxRecDepth 100000
set_option linter.unusedVariables false
set_option linter.unusedSimpArgs false
set_option maxHeartbeats 4000000
theorem rbelow_any (v : Value) (l : List Nd) (s : ByteArray) (u d : Int) (w : World) (h : RN w v l) :
    Calls Try.prog 39 #[ndV s u d, v] w fun e w' => e = .returned (.bool (hasL l (s, u, d))) ∧ Fr [] w w' := by
  obtain ⟨a, b, hab⟩ : ∃ a b, ofL l s = (a, b) := ⟨_, _, rfl⟩
  obtain ⟨is_, his⟩ : ∃ i, i = (lk l s).isSome := ⟨_, rfl⟩
  have hf : ∀ W, RN W v l → Calls Try.prog 32 #[v, .string s] W fun e w' => e = .returned (.tuple #[ndV s a b, .bool is_]) ∧ Fr [] W w' := fun W hW => by
    have := find_any v l s W hW
    rwa [hab, ← his] at this
  have hr : hasL l (s, u, d) = (is_ && decide (u ≤ a) && decide (d ≤ b)) := by
    unfold hasL
    unfold ofL at hab
    cases hl : lk l s with
    | none => rw [hl] at his; simp [his]
    | some p => rw [hl] at hab his; simp at hab his; subst hab his; simp
  rw [hr]
  have HFi := Lib.hid hf
  have H := Lib.hid h
  have hF0 : Fr [] w (w.alloc (.cells #[.string s, .int .u64 u, .int .u64 d] 33)) := (Fr.refl _ _).alloc _
  obtain ⟨pa, pc, e⟩ := h.at_
  subst e
  clear h hf hr his hab
  cases is_ with
  | false =>
    go_enter Try.func39, Try.ntmps39
    go_wp2_with ((go_at_call 32); (with_reducible refine (HFi.out _ (H.out.fr0 hF0)).mono ?_); rintro e w1 ⟨rfl, hF1⟩; have hb := hF1.blk (Blk.new w #[.string s, .int .u64 u, .int .u64 d] 33) (by simp); have hbc := hb.cell; have hbl := hb.lt)
    go_ret
    exact ⟨rfl, (hF0.trans hF1).alloc _⟩
  | true =>
    by_cases h1 : u ≤ a
    · have h1' : decide (u ≤ a) = true := by simpa using h1
      by_cases h2 : d ≤ b
      · have h2' : decide (d ≤ b) = true := by simpa using h2
        go_enter Try.func39, Try.ntmps39
        go_wp2_with ((go_at_call 32); (with_reducible refine (HFi.out _ (H.out.fr0 hF0)).mono ?_); rintro e w1 ⟨rfl, hF1⟩; have hb := hF1.blk (Blk.new w #[.string s, .int .u64 u, .int .u64 d] 33) (by simp); have hbc := hb.cell; have hbl := hb.lt)
        go_ret
        exact ⟨by rw [h1', h2']; rfl, (hF0.trans hF1).alloc _⟩
      · have h2' : decide (d ≤ b) = false := by simpa using h2
        go_enter Try.func39, Try.ntmps39
        go_wp2_with ((go_at_call 32); (with_reducible refine (HFi.out _ (H.out.fr0 hF0)).mono ?_); rintro e w1 ⟨rfl, hF1⟩; have hb := hF1.blk (Blk.new w #[.string s, .int .u64 u, .int .u64 d] 33) (by simp); have hbc := hb.cell; have hbl := hb.lt)
        go_ret
        exact ⟨by rw [h1', h2']; rfl, (hF0.trans hF1).alloc _⟩
    · have h1' : decide (u ≤ a) = false := by simpa using h1
      go_enter Try.func39, Try.ntmps39
      go_wp2_with ((go_at_call 32); (with_reducible refine (HFi.out _ (H.out.fr0 hF0)).mono ?_); rintro e w1 ⟨rfl, hF1⟩; have hb := hF1.blk (Blk.new w #[.string s, .int .u64 u, .int .u64 d] 33) (by simp); have hbc := hb.cell; have hbl := hb.lt)
      go_ret
      exact ⟨by rw [h1']; rfl, (hF0.trans hF1).alloc _⟩
end Go.Proofs.Ytanbfejhhnhabaa
