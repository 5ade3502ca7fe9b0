/- The package crdt: Check, checked. -/
import Derived.Test.YtanbfejhhnhabaaSt
namespace Go.Proofs.Ytanbfejhhnhabaa
open Go.RowKit Go.Maps Go.Sort
set_option maxRecDepth 100000
set_option linter.unusedVariables false
set_option linter.unusedSimpArgs false
set_option maxHeartbeats 8000000
/-- Is a node right, where the one ahead of it has this name? -/
def okN (p : Option ByteArray) (x : Nd) : Bool :=
  nameF x.1 && (match p with | some q => Op.bytesLess q.toList x.1.toList | none => true) && decide (x.2.1 ≤ 72057594037927936) && decide (x.2.2 ≤ 72057594037927936) && !(x.2.1 == 0 && x.2.2 == 0)
def okL : Option ByteArray → List Nd → Bool
  | _, [] => true
  | p, x :: r => okN p x && okL (some x.1) r
def rightL (l : List Nd) : Bool := decide (l.length ≤ 64) && okL none l
def chkF (l : List Nd) : Int := if rightL l = true then 0 else 230
theorem okL_drop (p : Option ByteArray) (l : List Nd) (j : Nat) (x : Nd) (h : l[j]? = some x) : okL p l = ((okL p (l.take j)) && okN (if j = 0 then p else (l[j - 1]?).map (·.1)) x && okL (some x.1) (l.drop (j + 1))) := by
  induction l generalizing p j with
  | nil => simp at h
  | cons y r ih =>
    cases j with
    | zero => simp at h; subst h; simp [okL]
    | succ j =>
      have := ih (some y.1) j (by simpa using h)
      simp only [okL, List.take_succ_cons, List.drop_succ_cons, this]
      cases j with
      | zero => simp [Bool.and_assoc]
      | succ j => simp [Bool.and_assoc]
theorem okL_take (p : Option ByteArray) (l : List Nd) (j : Nat) (x : Nd) (h : l[j]? = some x) : okL p (l.take (j + 1)) = (okL p (l.take j) && okN (if j = 0 then p else (l[j - 1]?).map (·.1)) x) := by
  have hj : j < l.length := (List.getElem?_eq_some_iff.1 h).1
  rw [okL_drop p (l.take (j + 1)) j x (by rw [List.getElem?_take_of_lt (by omega)]; exact h)]
  rw [List.take_take, Nat.min_eq_left (by omega), List.drop_take]
  simp [okL]
  cases j with
  | zero => simp
  | succ j => rw [if_neg (by omega), if_neg (by omega)]; congr 2; rw [List.getElem?_take_of_lt (by omega)]
theorem okL_fail {l : List Nd} {j : Nat} {x : Nd} (h : l[j]? = some x) (hf : okN (if j = 0 then none else (l[j - 1]?).map (·.1)) x = false) : rightL l = false := by
  unfold rightL
  rw [okL_drop none l j x h, hf]
  simp
theorem name_q (s : ByteArray) (b : Bool) (h : nameF s = b) : ∀ W : World, Calls Try.prog 31 #[.string s] W fun e w' => e = .returned (.bool b) ∧ w' = W := fun W =>
  (name_any s W).mono (fun e w' k => ⟨by rw [k.1, h], k.2.symm⟩)
theorem check_any (v : Value) (l : List Nd) (w : World) (h : RN w v l) (hs : ∀ a ∈ l, a.1.size ≤ maxLen) (hz : ∀ a ∈ l, 0 ≤ a.2.1 ∧ 0 ≤ a.2.2) (hm : l.length ≤ 9223372036854775806) :
    Calls Try.prog 26 #[v] w fun e w' => e = .returned (.int .i64 (chkF l)) ∧ Fr [] w w' := by
  obtain ⟨A, c, rfl⟩ := h.at_
  have H := Lib.hid h
  have HS := Lib.hid hs
  have HZ := Lib.hid hz
  clear h hs hz
  by_cases hl : l.length ≤ 64
  · have hl' : ¬ 64 < (l.length : Int) := by omega
    go_enter Try.func26, Try.ntmps26
    go_wp2
    go_loopw [10] (fun u wr => ∃ j : Nat, j ≤ l.length ∧ u = .int .i64 j ∧ okL none (l.take j) = true ∧ Fr [] w wr) (fun u _ => l.length - (intOf u).toNat)
    case atStart => exact ⟨0, by omega, rfl, rfl, Fr.refl _ _⟩
    case round =>
      obtain ⟨j, hj, rfl, hok, hF⟩ := hrel
      have HOK := Lib.hid hok
      clear hok
      by_cases hjl : j < l.length
      · obtain ⟨⟨s, u, d⟩, hj0⟩ : ∃ a, l[j]? = some a := ⟨_, List.getElem?_eq_getElem hjl⟩
        obtain ⟨g, o, c', he, g1, g2, g3, g4⟩ := (H.out.fr0 hF).cells (by omega)
        simp only [Value.slice.injEq] at he
        obtain ⟨rfl, -, rfl⟩ := he
        have k0 := g4 (j * 3) _ (flat3_get l j _ hj0).1
        have k1 := g4 (j * 3 + 1) _ (flat3_get l j _ hj0).2.1
        have k2 := g4 (j * 3 + 2) _ (flat3_get l j _ hj0).2.2
        rw [← Nat.add_assoc] at k1 k2
        simp only at k0 k1 k2
        obtain ⟨hu0, hd0⟩ := HZ.out _ (List.mem_of_getElem? hj0)
        simp only at hu0 hd0
        have hb := Blk.new wr #[.string s, .int .u64 u, .int .u64 d] 33
        have hbc := hb.cell
        have hbl := hb.lt
        have hfail := okL_fail hj0
        have htake := okL_take none l j _ hj0
        have HJ := Lib.hid hj0
        have HF := Lib.hid hF
        clear hj0 hF
        by_cases hnm : nameF s = true
        · have HNQ := Lib.hid (name_q s true hnm)
          cases j with
          | zero =>
            simp only [Nat.zero_mul, Nat.add_zero] at k0 k1 k2
            by_cases hu : 72057594037927936 < u
            · have hu' : decide (72057594037927936 < u) = true := by simpa using hu
              have hu2 : ¬ u ≤ 72057594037927936 := by omega
              have HFL := Lib.hid (hfail (by rw [if_pos rfl] <;> simp [okN, hnm, hu2]))
              clear hfail htake
              go_wp2_with fail
              (go_quiet ((go_at_call 31; exact Calls.quiet_of_same (HNQ.out _))))
              go_wp2
              go_ret
              refine ⟨by unfold chkF; rw [HFL.out]; rfl, (HF.out.alloc _).drN _⟩
            · have hu' : decide (72057594037927936 < u) = false := by simpa using hu
              have hu2 : u ≤ 72057594037927936 := by omega
              by_cases hd : 72057594037927936 < d
              · have hd' : decide (72057594037927936 < d) = true := by simpa using hd
                have hd2 : ¬ d ≤ 72057594037927936 := by omega
                have HFL := Lib.hid (hfail (by rw [if_pos rfl] <;> simp [okN, hnm, hu2, hd2]))
                clear hfail htake
                go_wp2_with fail
                (go_quiet ((go_at_call 31; exact Calls.quiet_of_same (HNQ.out _))))
                go_wp2
                go_ret
                refine ⟨by unfold chkF; rw [HFL.out]; rfl, (HF.out.alloc _).drN _⟩
              · have hd' : decide (72057594037927936 < d) = false := by simpa using hd
                have hd2 : d ≤ 72057594037927936 := by omega
                by_cases hu3 : u = 0
                · subst hu3
                  by_cases hd3 : d = 0
                  · subst hd3
                    have HFL := Lib.hid (hfail (by rw [if_pos rfl] <;> simp [okN, hnm]))
                    clear hfail htake
                    go_wp2_with fail
                    (go_quiet ((go_at_call 31; exact Calls.quiet_of_same (HNQ.out _))))
                    go_wp2
                    go_ret
                    refine ⟨by unfold chkF; rw [HFL.out]; rfl, (HF.out.alloc _).drN _⟩
                  · have hd4 : (d == 0) = false := by simpa using hd3
                    have ht2 : okL none (l.take (0 + 1)) = true := by
                      rw [htake, HOK.out, if_pos rfl]
                      simp [okN, hnm, hd2, hd3]
                    have HT := Lib.hid ht2
                    clear hfail htake ht2
                    go_wp2_with fail
                    (go_quiet ((go_at_call 31; exact Calls.quiet_of_same (HNQ.out _))))
                    go_wp2
                    go_roundw
                    case rel => exact ⟨1, by omega, by go_num, HT.out, (HF.out.alloc _).drN _⟩
                    case measure => simp [intOf]; omega
                · have hu4 : (u == 0) = false := by simpa using hu3
                  have ht2 : okL none (l.take (0 + 1)) = true := by
                    rw [htake, HOK.out, if_pos rfl]
                    simp [okN, hnm, hu2, hd2, hu3]
                  have HT := Lib.hid ht2
                  clear hfail htake ht2
                  go_wp2_with fail
                  (go_quiet ((go_at_call 31; exact Calls.quiet_of_same (HNQ.out _))))
                  go_wp2
                  go_roundw
                  case rel => exact ⟨1, by omega, by go_num, HT.out, (HF.out.alloc _).drN _⟩
                  case measure => simp [intOf]; omega
          | succ j =>
            obtain ⟨⟨sp, up, dp⟩, hp0⟩ : ∃ a, l[j]? = some a := ⟨_, List.getElem?_eq_getElem (by omega)⟩
            have m0 := g4 (j * 3) _ (flat3_get l j _ hp0).1
            simp only at m0
            have hpe : Option.map (fun x : Nd => x.1) l[j + 1 - 1]? = some sp := by simp [hp0]
            have hj1 : (0 : Int) < (j : Int) + 1 := by omega
            have hd1 : decide ((0 : Int) < (j : Int) + 1) = true := by first | (simp; done) | (simp; omega)
            by_cases hlt : Op.bytesLess sp.toList s.toList = true
            · by_cases hu : 72057594037927936 < u
              · have hu' : decide (72057594037927936 < u) = true := by simpa using hu
                have hu2 : ¬ u ≤ 72057594037927936 := by omega
                have HFL := Lib.hid (hfail (by rw [if_neg (by omega)] <;> simp [okN, hnm, hp0, hlt, hu2]))
                clear hfail htake
                go_wp2_with fail
                (go_quiet ((go_at_call 31; exact Calls.quiet_of_same (HNQ.out _))))
                go_wp2
                go_ret
                refine ⟨by unfold chkF; rw [HFL.out]; rfl, (HF.out.alloc _).drN _⟩
              · have hu' : decide (72057594037927936 < u) = false := by simpa using hu
                have hu2 : u ≤ 72057594037927936 := by omega
                by_cases hd : 72057594037927936 < d
                · have hd' : decide (72057594037927936 < d) = true := by simpa using hd
                  have hd2 : ¬ d ≤ 72057594037927936 := by omega
                  have HFL := Lib.hid (hfail (by rw [if_neg (by omega)] <;> simp [okN, hnm, hp0, hlt, hu2, hd2]))
                  clear hfail htake
                  go_wp2_with fail
                  (go_quiet ((go_at_call 31; exact Calls.quiet_of_same (HNQ.out _))))
                  go_wp2
                  go_ret
                  refine ⟨by unfold chkF; rw [HFL.out]; rfl, (HF.out.alloc _).drN _⟩
                · have hd' : decide (72057594037927936 < d) = false := by simpa using hd
                  have hd2 : d ≤ 72057594037927936 := by omega
                  by_cases hu3 : u = 0
                  · subst hu3
                    by_cases hd3 : d = 0
                    · subst hd3
                      have HFL := Lib.hid (hfail (by rw [if_neg (by omega)] <;> simp [okN, hnm, hp0, hlt]))
                      clear hfail htake
                      go_wp2_with fail
                      (go_quiet ((go_at_call 31; exact Calls.quiet_of_same (HNQ.out _))))
                      go_wp2
                      go_ret
                      refine ⟨by unfold chkF; rw [HFL.out]; rfl, (HF.out.alloc _).drN _⟩
                    · have hd4 : (d == 0) = false := by simpa using hd3
                      have ht2 : okL none (l.take (j + 1 + 1)) = true := by
                        rw [htake, HOK.out, if_neg (by omega)]
                        simp [okN, hnm, hp0, hlt, hd2, hd3]
                      have HT := Lib.hid ht2
                      clear hfail htake ht2
                      go_wp2_with fail
                      (go_quiet ((go_at_call 31; exact Calls.quiet_of_same (HNQ.out _))))
                      go_wp2
                      go_roundw
                      case rel => exact ⟨j + 1 + 1, by omega, by go_num, HT.out, (HF.out.alloc _).drN _⟩
                      case measure => simp [intOf]; omega
                  · have hu4 : (u == 0) = false := by simpa using hu3
                    have ht2 : okL none (l.take (j + 1 + 1)) = true := by
                      rw [htake, HOK.out, if_neg (by omega)]
                      simp [okN, hnm, hp0, hlt, hu2, hd2, hu3]
                    have HT := Lib.hid ht2
                    clear hfail htake ht2
                    go_wp2_with fail
                    (go_quiet ((go_at_call 31; exact Calls.quiet_of_same (HNQ.out _))))
                    go_wp2
                    go_roundw
                    case rel => exact ⟨j + 1 + 1, by omega, by go_num, HT.out, (HF.out.alloc _).drN _⟩
                    case measure => simp [intOf]; omega
            · have hlt' : Op.bytesLess sp.toList s.toList = false := by simpa using hlt
              have HFL := Lib.hid (hfail (by rw [if_neg (by omega)] <;> simp [okN, hp0, hlt']))
              clear hfail htake
              go_wp2_with fail
              (go_quiet ((go_at_call 31; exact Calls.quiet_of_same (HNQ.out _))))
              go_wp2
              go_ret
              refine ⟨by unfold chkF; rw [HFL.out]; rfl, (HF.out.alloc _).drN _⟩
        · have hnm' : nameF s = false := by simpa using hnm
          have HNQ := Lib.hid (name_q s false hnm')
          have HFL := Lib.hid (hfail (by simp [okN, hnm']))
          clear hfail htake
          go_wp2_with fail
          (go_quiet ((go_at_call 31; exact Calls.quiet_of_same (HNQ.out _))))
          go_wp2
          go_ret
          refine ⟨by unfold chkF; rw [HFL.out]; rfl, (HF.out.alloc _).drN _⟩
      · obtain rfl : j = l.length := by omega
        have e : rightL l = true := by
          unfold rightL
          have := HOK.out
          rw [List.take_length] at this
          simp [this, hl]
        have E := Lib.hid e
        clear e
        go_wp2
        go_ret
        exact ⟨by unfold chkF; rw [E.out]; rfl, hF⟩
  · have hl' : 64 < (l.length : Int) := by omega
    have e : rightL l = false := by unfold rightL; simp [hl]
    have E := Lib.hid e
    clear e
    go_enter Try.func26, Try.ntmps26
    go_wp2
    go_ret
    exact ⟨by unfold chkF; rw [E.out]; rfl, Fr.refl _ _⟩
end Go.Proofs.Ytanbfejhhnhabaa
