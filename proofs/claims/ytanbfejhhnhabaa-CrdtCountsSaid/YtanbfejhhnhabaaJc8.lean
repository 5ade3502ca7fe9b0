/- The reference's Below. -/
import Derived.Test.YtanbfejhhnhabaaJc7
import Derived.Test.YtanbfejhhnhabaaJc4
/- The reference's Right. -/
namespace Go.Proofs.Ytanbfejhhnhabaa
open Go.RowKit Go.Maps Go.Sort
set_option maxRecDepth 100000
set_option linter.unusedVariables false
set_option linter.unusedSimpArgs false
set_option maxHeartbeats 8000000
theorem name12_q (s : ByteArray) (b : Bool) (h : nameF s = b) : ∀ W : World, Calls Try.prog 48 #[.string s] W fun e w' => e = .returned (.bool b) ∧ ∃ m, w' = W.drewN m := fun W => by
  refine (Go.Proofs.Ytanbfejhhnhabaa.PCrdtCounts.abacusref12_Name.calls (s.size + 3) s (nameF s) W (name12_f s)).mono ?_
  rintro e w' ⟨rfl, hd⟩
  obtain ⟨m, hm⟩ := hd
  exact ⟨by rw [h], m, hm⟩
theorem right_any (v : Value) (l : List Nd) (w : World) (h : RN w v l) (hs : ∀ a ∈ l, a.1.size ≤ maxLen) (hz : ∀ a ∈ l, 0 ≤ a.2.1 ∧ 0 ≤ a.2.2) (hm : l.length ≤ 9223372036854775806) :
    Calls Try.prog 27 #[v] w fun e w' => e = .returned (.bool (rightL l)) ∧ Fr [] w w' := by
  obtain ⟨A, c, rfl⟩ := h.at_
  have H := Lib.hid h
  have HS := Lib.hid hs
  have HZ := Lib.hid hz
  clear h hs hz
  by_cases hl : l.length ≤ 64
  · have hl' : ¬ 64 < (l.length : Int) := by omega
    go_enter Try.func27, Try.ntmps27
    go_wp2
    go_loopw [10] (fun u wr => ∃ j : Nat, j ≤ l.length ∧ u = .int .i64 j ∧ okL none (l.take j) = true ∧ Fr [] w wr) (fun u _ => l.length - (intOf u).toNat)
    case atStart => exact ⟨0, by omega, rfl, rfl, Fr.refl _ _⟩
    case round =>
      obtain ⟨j, hj, rfl, hok, hF⟩ := hrel
      have HOK := Lib.hid hok
      clear hok
      by_cases hjl : j < l.length
      · obtain ⟨⟨s, u, d⟩, hj0⟩ : ∃ a, l[j]? = some a := ⟨_, List.getElem?_eq_getElem hjl⟩
        obtain ⟨g, o, c', he, g1, g2, g3, g4⟩ := (H.out.fr0 hF).cells (by omega)
        simp only [Value.slice.injEq] at he
        obtain ⟨rfl, -, rfl⟩ := he
        have k0 := g4 (j * 3) _ (flat3_get l j _ hj0).1
        have k1 := g4 (j * 3 + 1) _ (flat3_get l j _ hj0).2.1
        have k2 := g4 (j * 3 + 2) _ (flat3_get l j _ hj0).2.2
        rw [← Nat.add_assoc] at k1 k2
        simp only at k0 k1 k2
        obtain ⟨hu0, hd0⟩ := HZ.out _ (List.mem_of_getElem? hj0)
        simp only at hu0 hd0
        have hb := Blk.new wr #[.string s, .int .u64 u, .int .u64 d] 33
        have hbc := hb.cell
        have hbl := hb.lt
        have hfail := okL_fail hj0
        have htake := okL_take none l j _ hj0
        have HJ := Lib.hid hj0
        have HF := Lib.hid hF
        clear hj0 hF
        by_cases hnm : nameF s = true
        · have HNQ := Lib.hid (name12_q s true hnm)
          cases j with
          | zero =>
            simp only [Nat.zero_mul, Nat.add_zero] at k0 k1 k2
            by_cases hu : 72057594037927936 < u
            · have hu' : decide (72057594037927936 < u) = true := by simpa using hu
              have hu2 : ¬ u ≤ 72057594037927936 := by omega
              have HFL := Lib.hid (hfail (by rw [if_pos rfl] <;> simp [okN, hnm, hu2]))
              clear hfail htake
              go_wp2_with fail
              (go_quiet ((go_at_call 48; exact Calls.quiet_of (HNQ.out _))))
              go_wp2
              go_ret
              refine ⟨by rw [HFL.out]; rfl, (HF.out.alloc _).drN _⟩
            · have hu' : decide (72057594037927936 < u) = false := by simpa using hu
              have hu2 : u ≤ 72057594037927936 := by omega
              by_cases hd : 72057594037927936 < d
              · have hd' : decide (72057594037927936 < d) = true := by simpa using hd
                have hd2 : ¬ d ≤ 72057594037927936 := by omega
                have HFL := Lib.hid (hfail (by rw [if_pos rfl] <;> simp [okN, hnm, hu2, hd2]))
                clear hfail htake
                go_wp2_with fail
                (go_quiet ((go_at_call 48; exact Calls.quiet_of (HNQ.out _))))
                go_wp2
                go_ret
                refine ⟨by rw [HFL.out]; rfl, (HF.out.alloc _).drN _⟩
              · have hd' : decide (72057594037927936 < d) = false := by simpa using hd
                have hd2 : d ≤ 72057594037927936 := by omega
                by_cases hu3 : u = 0
                · subst hu3
                  by_cases hd3 : d = 0
                  · subst hd3
                    have HFL := Lib.hid (hfail (by rw [if_pos rfl] <;> simp [okN, hnm]))
                    clear hfail htake
                    go_wp2_with fail
                    (go_quiet ((go_at_call 48; exact Calls.quiet_of (HNQ.out _))))
                    go_wp2
                    go_ret
                    refine ⟨by rw [HFL.out]; rfl, (HF.out.alloc _).drN _⟩
                  · have hd4 : (d == 0) = false := by simpa using hd3
                    have ht2 : okL none (l.take (0 + 1)) = true := by
                      rw [htake, HOK.out, if_pos rfl]
                      simp [okN, hnm, hd2, hd3]
                    have HT := Lib.hid ht2
                    clear hfail htake ht2
                    go_wp2_with fail
                    (go_quiet ((go_at_call 48; exact Calls.quiet_of (HNQ.out _))))
                    go_wp2
                    go_roundw
                    case rel => exact ⟨1, by omega, by go_num, HT.out, (HF.out.alloc _).drN _⟩
                    case measure => simp [intOf]; omega
                · have hu4 : (u == 0) = false := by simpa using hu3
                  have ht2 : okL none (l.take (0 + 1)) = true := by
                    rw [htake, HOK.out, if_pos rfl]
                    simp [okN, hnm, hu2, hd2, hu3]
                  have HT := Lib.hid ht2
                  clear hfail htake ht2
                  go_wp2_with fail
                  (go_quiet ((go_at_call 48; exact Calls.quiet_of (HNQ.out _))))
                  go_wp2
                  go_roundw
                  case rel => exact ⟨1, by omega, by go_num, HT.out, (HF.out.alloc _).drN _⟩
                  case measure => simp [intOf]; omega
          | succ j =>
            obtain ⟨⟨sp, up, dp⟩, hp0⟩ : ∃ a, l[j]? = some a := ⟨_, List.getElem?_eq_getElem (by omega)⟩
            have m0 := g4 (j * 3) _ (flat3_get l j _ hp0).1
            simp only at m0
            have hpe : Option.map (fun x : Nd => x.1) l[j + 1 - 1]? = some sp := by simp [hp0]
            have hj1 : (0 : Int) < (j : Int) + 1 := by omega
            have hd1 : decide ((0 : Int) < (j : Int) + 1) = true := by first | (simp; done) | (simp; omega)
            by_cases hlt : Op.bytesLess sp.toList s.toList = true
            · by_cases hu : 72057594037927936 < u
              · have hu' : decide (72057594037927936 < u) = true := by simpa using hu
                have hu2 : ¬ u ≤ 72057594037927936 := by omega
                have HFL := Lib.hid (hfail (by rw [if_neg (by omega)] <;> simp [okN, hnm, hp0, hlt, hu2]))
                clear hfail htake
                go_wp2_with fail
                (go_quiet ((go_at_call 48; exact Calls.quiet_of (HNQ.out _))))
                go_wp2
                go_ret
                refine ⟨by rw [HFL.out]; rfl, (HF.out.alloc _).drN _⟩
              · have hu' : decide (72057594037927936 < u) = false := by simpa using hu
                have hu2 : u ≤ 72057594037927936 := by omega
                by_cases hd : 72057594037927936 < d
                · have hd' : decide (72057594037927936 < d) = true := by simpa using hd
                  have hd2 : ¬ d ≤ 72057594037927936 := by omega
                  have HFL := Lib.hid (hfail (by rw [if_neg (by omega)] <;> simp [okN, hnm, hp0, hlt, hu2, hd2]))
                  clear hfail htake
                  go_wp2_with fail
                  (go_quiet ((go_at_call 48; exact Calls.quiet_of (HNQ.out _))))
                  go_wp2
                  go_ret
                  refine ⟨by rw [HFL.out]; rfl, (HF.out.alloc _).drN _⟩
                · have hd' : decide (72057594037927936 < d) = false := by simpa using hd
                  have hd2 : d ≤ 72057594037927936 := by omega
                  by_cases hu3 : u = 0
                  · subst hu3
                    by_cases hd3 : d = 0
                    · subst hd3
                      have HFL := Lib.hid (hfail (by rw [if_neg (by omega)] <;> simp [okN, hnm, hp0, hlt]))
                      clear hfail htake
                      go_wp2_with fail
                      (go_quiet ((go_at_call 48; exact Calls.quiet_of (HNQ.out _))))
                      go_wp2
                      go_ret
                      refine ⟨by rw [HFL.out]; rfl, (HF.out.alloc _).drN _⟩
                    · have hd4 : (d == 0) = false := by simpa using hd3
                      have ht2 : okL none (l.take (j + 1 + 1)) = true := by
                        rw [htake, HOK.out, if_neg (by omega)]
                        simp [okN, hnm, hp0, hlt, hd2, hd3]
                      have HT := Lib.hid ht2
                      clear hfail htake ht2
                      go_wp2_with fail
                      (go_quiet ((go_at_call 48; exact Calls.quiet_of (HNQ.out _))))
                      go_wp2
                      go_roundw
                      case rel => exact ⟨j + 1 + 1, by omega, by go_num, HT.out, (HF.out.alloc _).drN _⟩
                      case measure => simp [intOf]; omega
                  · have hu4 : (u == 0) = false := by simpa using hu3
                    have ht2 : okL none (l.take (j + 1 + 1)) = true := by
                      rw [htake, HOK.out, if_neg (by omega)]
                      simp [okN, hnm, hp0, hlt, hu2, hd2, hu3]
                    have HT := Lib.hid ht2
                    clear hfail htake ht2
                    go_wp2_with fail
                    (go_quiet ((go_at_call 48; exact Calls.quiet_of (HNQ.out _))))
                    go_wp2
                    go_roundw
                    case rel => exact ⟨j + 1 + 1, by omega, by go_num, HT.out, (HF.out.alloc _).drN _⟩
                    case measure => simp [intOf]; omega
            · have hlt' : Op.bytesLess sp.toList s.toList = false := by simpa using hlt
              by_cases hu : 72057594037927936 < u
              · have hu' : decide (72057594037927936 < u) = true := by simpa using hu
                have HFL := Lib.hid (hfail (by rw [if_neg (by omega)] <;> simp [okN, hp0, hlt']))
                clear hfail htake
                go_wp2_with fail
                (go_quiet ((go_at_call 48; exact Calls.quiet_of (HNQ.out _))))
                go_wp2
                go_ret
                refine ⟨by rw [HFL.out]; rfl, (HF.out.alloc _).drN _⟩
              · have hu' : decide (72057594037927936 < u) = false := by simpa using hu
                by_cases hd : 72057594037927936 < d
                · have hd' : decide (72057594037927936 < d) = true := by simpa using hd
                  have HFL := Lib.hid (hfail (by rw [if_neg (by omega)] <;> simp [okN, hp0, hlt']))
                  clear hfail htake
                  go_wp2_with fail
                  (go_quiet ((go_at_call 48; exact Calls.quiet_of (HNQ.out _))))
                  go_wp2
                  go_ret
                  refine ⟨by rw [HFL.out]; rfl, (HF.out.alloc _).drN _⟩
                · have hd' : decide (72057594037927936 < d) = false := by simpa using hd
                  by_cases hu3 : u = 0
                  · subst hu3
                    by_cases hd3 : d = 0
                    · subst hd3
                      have HFL := Lib.hid (hfail (by rw [if_neg (by omega)] <;> simp [okN, hp0, hlt']))
                      clear hfail htake
                      go_wp2_with fail
                      (go_quiet ((go_at_call 48; exact Calls.quiet_of (HNQ.out _))))
                      go_wp2
                      go_ret
                      refine ⟨by rw [HFL.out]; rfl, (HF.out.alloc _).drN _⟩
                    · have hd4 : (d == 0) = false := by simpa using hd3
                      have HFL := Lib.hid (hfail (by rw [if_neg (by omega)] <;> simp [okN, hp0, hlt']))
                      clear hfail htake
                      go_wp2_with fail
                      (go_quiet ((go_at_call 48; exact Calls.quiet_of (HNQ.out _))))
                      go_wp2
                      go_ret
                      refine ⟨by rw [HFL.out]; rfl, (HF.out.alloc _).drN _⟩
                  · have hu4 : (u == 0) = false := by simpa using hu3
                    have HFL := Lib.hid (hfail (by rw [if_neg (by omega)] <;> simp [okN, hp0, hlt']))
                    clear hfail htake
                    go_wp2_with fail
                    (go_quiet ((go_at_call 48; exact Calls.quiet_of (HNQ.out _))))
                    go_wp2
                    go_ret
                    refine ⟨by rw [HFL.out]; rfl, (HF.out.alloc _).drN _⟩
        · have hnm' : nameF s = false := by simpa using hnm
          have HNQ := Lib.hid (name12_q s false hnm')
          have HFL := Lib.hid (hfail (by simp [okN, hnm']))
          clear hfail htake
          go_wp2_with fail
          (go_quiet ((go_at_call 48; exact Calls.quiet_of (HNQ.out _))))
          go_wp2
          go_ret
          refine ⟨by rw [HFL.out]; rfl, (HF.out.alloc _).drN _⟩
      · obtain rfl : j = l.length := by omega
        have e : rightL l = true := by
          unfold rightL
          have := HOK.out
          rw [List.take_length] at this
          simp [this, hl]
        have E := Lib.hid e
        clear e
        go_wp2
        go_ret
        exact ⟨by rw [E.out]; rfl, hF⟩
  · have hl' : 64 < (l.length : Int) := by omega
    have e : rightL l = false := by unfold rightL; simp [hl]
    have E := Lib.hid e
    clear e
    go_enter Try.func27, Try.ntmps27
    go_wp2
    go_ret
    exact ⟨by rw [E.out]; rfl, Fr.refl _ _⟩
end Go.Proofs.Ytanbfejhhnhabaa

/- The reference's below. -/
namespace Go.Proofs.Ytanbfejhhnhabaa
open Go.RowKit Go.Maps Go.Sort
set_option maxRecDepth 100000
set_option linter.unusedVariables false
set_option linter.unusedSimpArgs false
set_option maxHeartbeats 4000000
theorem rbelow_any (v : Value) (l : List Nd) (s : ByteArray) (u d : Int) (w : World) (h : RN w v l) :
    Calls Try.prog 39 #[ndV s u d, v] w fun e w' => e = .returned (.bool (hasL l (s, u, d))) ∧ Fr [] w w' := by
  obtain ⟨a, b, hab⟩ : ∃ a b, ofL l s = (a, b) := ⟨_, _, rfl⟩
  obtain ⟨is_, his⟩ : ∃ i, i = (lk l s).isSome := ⟨_, rfl⟩
  have hf : ∀ W, RN W v l → Calls Try.prog 32 #[v, .string s] W fun e w' => e = .returned (.tuple #[ndV s a b, .bool is_]) ∧ Fr [] W w' := fun W hW => by
    have := find_any v l s W hW
    rwa [hab, ← his] at this
  have hr : hasL l (s, u, d) = (is_ && decide (u ≤ a) && decide (d ≤ b)) := by
    unfold hasL
    unfold ofL at hab
    cases hl : lk l s with
    | none => rw [hl] at his; simp [his]
    | some p => rw [hl] at hab his; simp at hab his; subst hab his; simp
  rw [hr]
  have HFi := Lib.hid hf
  have H := Lib.hid h
  have hF0 : Fr [] w (w.alloc (.cells #[.string s, .int .u64 u, .int .u64 d] 33)) := (Fr.refl _ _).alloc _
  obtain ⟨pa, pc, e⟩ := h.at_
  subst e
  clear h hf hr his hab
  cases is_ with
  | false =>
    go_enter Try.func39, Try.ntmps39
    go_wp2_with ((go_at_call 32); (with_reducible refine (HFi.out _ (H.out.fr0 hF0)).mono ?_); rintro e w1 ⟨rfl, hF1⟩; have hb := hF1.blk (Blk.new w #[.string s, .int .u64 u, .int .u64 d] 33) (by simp); have hbc := hb.cell; have hbl := hb.lt)
    go_ret
    exact ⟨rfl, (hF0.trans hF1).alloc _⟩
  | true =>
    by_cases h1 : u ≤ a
    · have h1' : decide (u ≤ a) = true := by simpa using h1
      by_cases h2 : d ≤ b
      · have h2' : decide (d ≤ b) = true := by simpa using h2
        go_enter Try.func39, Try.ntmps39
        go_wp2_with ((go_at_call 32); (with_reducible refine (HFi.out _ (H.out.fr0 hF0)).mono ?_); rintro e w1 ⟨rfl, hF1⟩; have hb := hF1.blk (Blk.new w #[.string s, .int .u64 u, .int .u64 d] 33) (by simp); have hbc := hb.cell; have hbl := hb.lt)
        go_ret
        exact ⟨by rw [h1', h2']; rfl, (hF0.trans hF1).alloc _⟩
      · have h2' : decide (d ≤ b) = false := by simpa using h2
        go_enter Try.func39, Try.ntmps39
        go_wp2_with ((go_at_call 32); (with_reducible refine (HFi.out _ (H.out.fr0 hF0)).mono ?_); rintro e w1 ⟨rfl, hF1⟩; have hb := hF1.blk (Blk.new w #[.string s, .int .u64 u, .int .u64 d] 33) (by simp); have hbc := hb.cell; have hbl := hb.lt)
        go_ret
        exact ⟨by rw [h1', h2']; rfl, (hF0.trans hF1).alloc _⟩
    · have h1' : decide (u ≤ a) = false := by simpa using h1
      go_enter Try.func39, Try.ntmps39
      go_wp2_with ((go_at_call 32); (with_reducible refine (HFi.out _ (H.out.fr0 hF0)).mono ?_); rintro e w1 ⟨rfl, hF1⟩; have hb := hF1.blk (Blk.new w #[.string s, .int .u64 u, .int .u64 d] 33) (by simp); have hbc := hb.cell; have hbl := hb.lt)
      go_ret
      exact ⟨by rw [h1']; rfl, (hF0.trans hF1).alloc _⟩
end Go.Proofs.Ytanbfejhhnhabaa

namespace Go.Proofs.Ytanbfejhhnhabaa
open Go.RowKit Go.Maps Go.Sort
set_option maxRecDepth 100000
set_option linter.unusedVariables false
set_option linter.unusedSimpArgs false
set_option maxHeartbeats 4000000
theorem rright_to {v : Value} {l : List Nd} {b : Bool} {w : World} (h : RN w v l) (a : Arg l) (e : rightL l = b) :
    Calls Try.prog 27 #[v] w fun e w' => e = .returned (.bool b) ∧ Fr [] w w' := by
  have := right_any v l w h a.sz a.pos a.len
  rwa [e] at this
theorem rbelow2_any (v1 v2 : Value) (l1 l2 : List Nd) (w : World) (h1 : RN w v1 l1) (h2 : RN w v2 l2) (a1 : Arg l1) (a2 : Arg l2) :
    Calls Try.prog 17 #[v1, v2] w fun e w' => e = .returned (.tuple #[.bool (belowF l1 l2).1, .int .i64 (belowF l1 l2).2]) ∧ Fr [] w w' := by
  have H1 := Lib.hid h1
  have H2 := Lib.hid h2
  have HA1 := Lib.hid a1
  have HA2 := Lib.hid a2
  obtain ⟨p1, q1, e1⟩ := h1.at_
  obtain ⟨p2, q2, e2⟩ := h2.at_
  subst e1 e2
  clear h1 h2 a1 a2
  by_cases r1 : rightL l1 = true
  · by_cases r2 : rightL l2 = true
    · have em : belowF l1 l2 = (l1.all (hasL l2), 0) := by unfold belowF; rw [if_pos ⟨r1, r2⟩]
      have hn := right_len r1
      have R1 := Lib.hid r1
      have R2 := Lib.hid r2
      have EM := Lib.hid em
      clear r1 r2 em
      go_enter Try.func17, Try.ntmps17
      go_wp2_with fail
      go_at_call 27
      refine (rright_to H1.out HA1.out R1.out).mono ?_
      rintro e w1 ⟨rfl, hF1⟩
      have HF1 := Lib.hid hF1
      clear hF1
      go_wp2_with fail
      go_at_call 27
      refine (rright_to (H2.out.fr0 HF1.out) HA2.out R2.out).mono ?_
      rintro e w2 ⟨rfl, hF2⟩
      have HF2 := Lib.hid (HF1.out.trans hF2)
      clear hF2
      go_wp2_with fail
      go_loopw [18] (fun u wr => ∃ j : Nat, j ≤ l1.length ∧ u = .int .i64 j ∧ Hid ((l1.take j).all (hasL l2) = true) ∧ Hid (Fr [] w wr)) (fun u _ => l1.length - (intOf u).toNat)
      case atStart => exact ⟨0, by omega, rfl, Lib.hid rfl, HF2⟩
      case round =>
        obtain ⟨j, hj, rfl, HK, HF⟩ := hrel
        by_cases hjl : j < l1.length
        · obtain ⟨⟨s, u, d⟩, hj0⟩ : ∃ a, l1[j]? = some a := ⟨_, List.getElem?_eq_getElem hjl⟩
          obtain ⟨g, o, c', he, g1, g2, g3, g4⟩ := (H1.out.fr0 HF.out).cells (by omega)
          simp only [Value.slice.injEq] at he
          obtain ⟨rfl, -, rfl⟩ := he
          have k0 := g4 (j * 3) _ (flat3_get l1 j _ hj0).1
          have k1 := g4 (j * 3 + 1) _ (flat3_get l1 j _ hj0).2.1
          have k2 := g4 (j * 3 + 2) _ (flat3_get l1 j _ hj0).2.2
          rw [← Nat.add_assoc] at k1 k2
          simp only at k0 k1 k2
          have HJ := Lib.hid hj0
          have hb := rbelow_any _ l2 s u d _ ((H2.out.fr0 HF.out).fr0 ((Fr.refl [] wr).alloc (.cells #[.string s, .int .u64 u, .int .u64 d] 33)))
          clear g4 hj0
          cases hh : hasL l2 (s, u, d) with
          | true =>
            rw [hh] at hb
            have HB := Lib.hid hb
            have HH := Lib.hid hh
            clear hb hh
            go_wp2_with ((go_at_call 39); (with_reducible refine HB.out.mono ?_); rintro e w3 ⟨rfl, hF3⟩)
            go_roundw
            case rel => exact ⟨j + 1, by omega, by go_num, Lib.hid (by rw [take_snoc HJ.out, List.all_append, HK.out]; simp [HH.out]), Lib.hid ((HF.out.alloc _).trans hF3)⟩
            case measure => simp [intOf]; omega
          | false =>
            rw [hh] at hb
            have e : belowF l1 l2 = (false, 0) := by
              rw [EM.out, Prod.mk.injEq]
              refine ⟨?_, rfl⟩
              rw [List.all_eq_false]
              exact ⟨_, List.mem_of_getElem? HJ.out, by simp [hh]⟩
            have HB := Lib.hid hb
            have E := Lib.hid e
            clear hb hh e
            go_wp2_with ((go_at_call 39); (with_reducible refine HB.out.mono ?_); rintro e w3 ⟨rfl, hF3⟩)
            go_ret2
            exact ⟨by rw [E.out]; rfl, (HF.out.alloc _).trans hF3⟩
        · obtain rfl : j = l1.length := by omega
          have hk := HK.out
          rw [List.take_length] at hk
          have E := Lib.hid hk
          clear hk
          go_wp2
          go_ret2
          exact ⟨by rw [EM.out, E.out]; rfl, HF.out⟩
    · have em : belowF l1 l2 = (false, 230) := by unfold belowF; rw [if_neg (fun h => r2 h.2)]
      have R1 := Lib.hid r1
      have R2 := Lib.hid (Bool.eq_false_iff.2 r2)
      have EM := Lib.hid em
      clear r1 r2 em
      go_enter Try.func17, Try.ntmps17
      go_wp2_with fail
      go_at_call 27
      refine (rright_to H1.out HA1.out R1.out).mono ?_
      rintro e w1 ⟨rfl, hF1⟩
      have HF1 := Lib.hid hF1
      clear hF1
      go_wp2_with fail
      go_at_call 27
      refine (rright_to (H2.out.fr0 HF1.out) HA2.out R2.out).mono ?_
      rintro e w2 ⟨rfl, hF2⟩
      go_wp2_with fail
      go_ret2
      exact ⟨by rw [EM.out]; rfl, HF1.out.trans hF2⟩
  · have em : belowF l1 l2 = (false, 230) := by unfold belowF; rw [if_neg (fun h => r1 h.1)]
    have R1 := Lib.hid (Bool.eq_false_iff.2 r1)
    have EM := Lib.hid em
    clear r1 em
    go_enter Try.func17, Try.ntmps17
    go_wp2_with fail
    go_at_call 27
    refine (rright_to H1.out HA1.out R1.out).mono ?_
    rintro e w1 ⟨rfl, hF1⟩
    go_wp2_with fail
    go_ret2
    exact ⟨by rw [EM.out]; rfl, hF1⟩
end Go.Proofs.Ytanbfejhhnhabaa
