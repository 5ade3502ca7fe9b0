/- The law DeltaSums: its walk. -/
import Derived.Test.YtmilnhicmeblhaaSc
import Derived.Test.YtmilnhicmeblhaaOa
namespace Go.Proofs.Ytmilnhicmeblhaa
open Go.RowKit Go.Maps Go.Sort
set_option maxRecDepth 100000
set_option linter.unusedVariables false
set_option linter.unusedSimpArgs false
set_option maxHeartbeats 16000000
/-- A store into a map leaves the slices. -/
theorem RD.frm {α : Type} {X : Elt α} {w0 w w' : World} {size : Nat} {v : Value} {n : Nat} {xs : List Value} {b k : Nat} {l : List (ByteArray × α)} (h : RD w size v n xs) (hm : NM X w b k l) (f : Fr [b] w w') (hs : 0 < size) : RD w' size v n xs := by
  refine h.frp f (fun g hg h0 hmem => ?_)
  simp at hmem
  subst hmem
  obtain ⟨g', o, c, he, h1, h2, h3, h4⟩ := h.cells h0
  subst he
  simp [Value.ownBlock] at hg
  subst hg
  have hl : 0 < xs.length := by rw [h.1]; exact Nat.mul_pos h0 hs
  have := h4 0 xs[0] (List.getElem?_eq_getElem hl)
  exact hm.notCell this
theorem flat1_get (l : List Cv2) (i : Nat) (x : Cv2) (h : l[i]? = some x) : (flat1 l)[i * 1]? = some x.1 := by
  have h1 := flatMap_at (f := fun a : Cv2 => [a.1]) (s := 1) (fun _ => rfl) l i x 0 h (by decide)
  exact h1
def hasC (l : List Ct) (s : ByteArray) (n : Int) : Bool := l.any fun c => decide (c.1 = s) && decide (c.2 = n)
theorem hasC_mem {l : List Ct} {s : ByteArray} {n : Int} (h : (s, n) ∈ l) : hasC l s n = true := List.any_eq_true.2 ⟨_, h, by simp⟩
theorem sums_snoc {d : List Ch} {j : Nat} {c : Ch} (m : Stm) (h : d[j]? = some c) : (d.take (j + 1)).foldl sumStep m = sumStep ((d.take j).foldl sumStep m) c := by
  rw [List.take_add_one, h]
  simp [List.foldl_append]
theorem deltaSums_walk (v : Value) (L : List Cv2) (w : World) (hL : RD w 1 v L.length (flat1 L)) (hC : ∀ a ∈ L, RC w a.1 a.2 ∧ WC a.2 ∧ a.2.length ≤ 140737488355328) (hl : L.length ≤ 5864062014806) :
    Calls Try.prog 3 #[v] w fun e w' => e = .returned (.bool true) ∧ Fr [] w w' := by
  obtain ⟨va, vc, ev⟩ := hL.at_
  subst ev
  have HL := Lib.hid hL
  have HC := Lib.hid hC
  have hmm := @run_makeMap Try.prog
  clear hL hC
  go_enter Try.func3, Try.ntmps3
  go_wp2_with ((go_at_call 12); (with_reducible refine (begins_any _).mono ?_); rintro e w1 ⟨rfl, hF1⟩; have HF1 := Lib.hid hF1; clear hF1)
  have hz1 := HF1.out.size
  have HM0 := Lib.hid (NM.made XB w1 w1.heap.size rfl)
  clear hmm
  go_loopw [6, 3, 4] (fun i vl vt wr => ∃ (k : Nat) (la ta : List Ct) (m : Stm) (nn : Nat), k ≤ L.length ∧ i = .int .i64 k ∧ Hid (RC wr vl la) ∧ Hid (RC wr vt ta) ∧ Hid (SumI la ta m) ∧ Hid (NM XB wr w1.heap.size nn m) ∧ nn ≤ 4096 * k ∧ Hid (Fr [] w wr)) (fun i _ _ _ => L.length - (intOf i).toNat)
  case atStart => exact ⟨0, [], [], [], 0, by omega, rfl, Lib.hid (RD.nil _ _), Lib.hid (RD.nil _ _), Lib.hid SumI.start, HM0, by omega, Lib.hid (HF1.out.alloc _)⟩
  case round =>
    obtain ⟨k, la, ta, m, nn, hk, rfl, HLA, HTA, HSI, HM, hnn, HF⟩ := hrel
    obtain ⟨la1, la2, ela⟩ := HLA.out.at_
    obtain ⟨ta1, ta2, eta⟩ := HTA.out.at_
    subst ela eta
    have hll := (rightC_iff.1 HSI.out.rl).2.2
    have htl := (rightC_iff.1 HSI.out.rt).2.2
    by_cases hkl : k < L.length
    · obtain ⟨⟨vx, lx⟩, hx0⟩ : ∃ a, L[k]? = some a := ⟨_, List.getElem?_eq_getElem hkl⟩
      obtain ⟨hx1, hx2, hx3⟩ := HC.out _ (List.mem_of_getElem? hx0)
      simp only at hx1 hx2 hx3
      obtain ⟨xa, xc, ex⟩ := hx1.at_
      subst ex
      have HX0 := Lib.hid hx1
      have HX := Lib.hid (hx1.fr0 HF.out)
      obtain ⟨g, o, cc, he, g1, g2, g3, g4⟩ := HL.out.cells (by omega)
      simp only [Value.slice.injEq] at he
      obtain ⟨rfl, -, rfl⟩ := he
      have k0 := g4 (k * 1) _ (flat1_get L k _ hx0)
      simp only [Nat.mul_one] at k0
      have HK0 := Lib.hid k0
      replace k0 := HF.out.cl k0
      obtain ⟨d, hd⟩ : ∃ d, (diffE la lx).1 = d := ⟨_, rfl⟩
      obtain ⟨y, hy⟩ : ∃ y, (diffE la lx).2 = y := ⟨_, rfl⟩
      have HD := Lib.hid hd
      have HY := Lib.hid hy
      have HWX := Lib.hid hx2
      clear g4 hx0 hx1 hx2 hd hy
      by_cases h0 : y = 0
      · subst h0
        have hdr := diffE_right HSI.out.wl HWX.out
        rw [HD.out] at hdr
        have HDR := Lib.hid hdr
        have hdl := (rightH_iff.1 hdr.1).2.2.2
        clear hdr
        go_upto_region 11 with ((go_at_call 13); (with_reducible refine (diff_any _ _ la lx _ HLA.out HX.out (by omega) (by omega) HSI.out.wl HWX.out).mono ?_); rw [HD.out, HY.out]; rintro e w2 hh; obtain ⟨v2, rfl, hS, hF⟩ := hh.case; have HS := Lib.hid hS; have HF2 := Lib.hid hF; obtain ⟨a2, c2, e2⟩ := hS.at_; subst e2; clear hh hS hF k0)
        have hz2 := HF.out.size
        have hz3 := HF2.out.size
        go_wp2
        go_loopw [9] (fun u wr => ∃ j : Nat, j ≤ d.length ∧ u = .int .i64 j ∧ Hid (NM XB wr w1.heap.size (nn + j) ((d.take j).foldl sumStep m)) ∧ Hid (Fr [w1.heap.size] w2 wr)) (fun u _ => d.length - (intOf u).toNat)
        case atStart => exact ⟨0, by omega, rfl, Lib.hid (HM.out.fr0 HF2.out), Lib.hid (Fr.refl _ _)⟩
        case round =>
          obtain ⟨j, hj, rfl, HMJ, HFJ⟩ := hrel
          have HSJ := Lib.hid (HS.out.rd.frm (w0 := w) (HM.out.fr0 HF2.out) HFJ.out (by decide))
          by_cases hjl : j < d.length
          · obtain ⟨⟨s, n, r, gn⟩, hj0⟩ : ∃ a, d[j]? = some a := ⟨_, List.getElem?_eq_getElem hjl⟩
            obtain ⟨f0, f1, f2, f3⟩ := flat4_get d j _ hj0
            obtain ⟨g', o', c', he, g1', g2', g3', g4'⟩ := HSJ.out.cells (by omega)
            simp only [Value.slice.injEq] at he
            obtain ⟨rfl, -, rfl⟩ := he
            have m0 := g4' (j * 4) _ f0
            have m1 := g4' (j * 4 + 1) _ f1
            have m2 := g4' (j * 4 + 2) _ f2
            have m3 := g4' (j * 4 + 3) _ f3
            rw [← Nat.add_assoc] at m1 m2 m3
            simp only at m0 m1 m2 m3
            have hsz : s.size ≤ maxLen := by
              have := keyF_size ((rightH_iff.1 HDR.out.1).1 _ (List.mem_of_getElem? hj0))
              unfold maxLen
              simp at this
              omega
            have hn0 := (HDR.out.2 _ (List.mem_of_getElem? hj0)).1
            simp only at hn0
            have hsn := sums_snoc m hj0
            have HSN := Lib.hid hsn
            obtain ⟨M, hM⟩ : ∃ M, (d.take j).foldl sumStep m = M := ⟨_, rfl⟩
            rw [hM] at hsn HMJ
            have HSN := Lib.hid hsn
            obtain ⟨kb, hkb⟩ : ∃ kb, (lk M s).isSome = kb := ⟨_, rfl⟩
            have hlk : (Instr.lookup 25 (.map (some w1.heap.size)) (.string s) true).run Try.prog wr = .ok (.tuple #[.bool ((lk M s).getD false), .bool kb]) wr := by
              have := HMJ.out.look_ok s hsz
              rw [hkb] at this
              exact this
            obtain ⟨bv, hbv⟩ : ∃ bv, (lk M s).getD false = bv := ⟨_, rfl⟩
            rw [hbv] at hlk
            have HKB := Lib.hid hkb
            obtain ⟨wf, hupf0, hMf, hFf⟩ := HMJ.out.store (l' := (s, false) :: M) s hsz false (by unfold maxLen; omega) (fun t => rfl)
            obtain ⟨wt, hupt0, hMt, hFt⟩ := HMJ.out.store (l' := (s, true) :: M) s hsz true (by unfold maxLen; omega) (fun t => rfl)
            have hupf : (Instr.mapUpdate 25 (.map (some w1.heap.size)) (.string s) (.bool false)).run Try.prog wr = .ok () wf := hupf0
            have hupt : (Instr.mapUpdate 25 (.map (some w1.heap.size)) (.string s) (.bool true)).run Try.prog wr = .ok () wt := hupt0
            have HMf := Lib.hid hMf
            have HFf := Lib.hid hFf
            have HMt := Lib.hid hMt
            have HFt := Lib.hid hFt
            clear g4' hj0 f0 f1 f2 f3 hsn hM hkb hbv hupf0 hupt0 hMf hFf hMt hFt
            have fin : ∀ (W : World) (M' : Stm), sumStep M (s, n, r, gn) = M' → NM XB W w1.heap.size (nn + j + 1) M' → Fr [w1.heap.size] wr W → (Hid (NM XB W w1.heap.size (nn + (j + 1)) ((d.take (j + 1)).foldl sumStep m)) ∧ Hid (Fr [w1.heap.size] w2 W)) := fun W M' e1 e2 e3 =>
              ⟨Lib.hid (by rw [HSN.out, e1, ← Nat.add_assoc]; exact e2), Lib.hid (HFJ.out.trans e3)⟩
            have FIN := Lib.hid fin
            clear fin
            cases gn with
            | true =>
              go_wp2
              go_roundw
              case rel => exact ⟨j + 1, by omega, by go_num, FIN.out _ _ (by simp [sumStep, fellB]) HMf.out HFf.out⟩
              case measure => simp [intOf]; omega
            | false =>
              cases r with
              | true =>
                by_cases hn : 0 < n
                · go_wp2
                  go_roundw
                  case rel => exact ⟨j + 1, by omega, by go_num, FIN.out _ _ (by simp [sumStep, fellB, hn]) HMf.out HFf.out⟩
                  case measure => simp [intOf]; omega
                · cases kb with
                  | true =>
                    go_wp2
                    go_roundw
                    case rel => exact ⟨j + 1, by omega, by go_num, FIN.out _ _ (by simp [sumStep, fellB, HKB.out]) HMf.out HFf.out⟩
                    case measure => simp [intOf]; omega
                  | false =>
                    go_wp2
                    go_roundw
                    case rel => exact ⟨j + 1, by omega, by go_num, FIN.out _ _ (by simp [sumStep, fellB, hn, HKB.out]) HMt.out HFt.out⟩
                    case measure => simp [intOf]; omega
              | false =>
                cases kb with
                | true =>
                  go_wp2
                  go_roundw
                  case rel => exact ⟨j + 1, by omega, by go_num, FIN.out _ _ (by simp [sumStep, fellB, HKB.out]) (HMJ.out.mono (by omega)) (Fr.refl _ _)⟩
                  case measure => simp [intOf]; omega
                | false =>
                  go_wp2
                  go_roundw
                  case rel => exact ⟨j + 1, by omega, by go_num, FIN.out _ _ (by simp [sumStep, fellB, HKB.out]) HMt.out HFt.out⟩
                  case measure => simp [intOf]; omega
          · obtain rfl : j = d.length := by omega
            have hMJ := HMJ.out
            rw [List.take_length] at hMJ
            have HMJ2 := Lib.hid hMJ
            have hF02 : Fr [] w w2 := HF.out.trans HF2.out
            have HFW := Lib.hid (show Fr [] w wr from ((hF02.mono (T := [w1.heap.size]) (by simp)).trans HFJ.out).weaken (by intro z hz; simp at hz; subst hz; right; omega))
            have HTJ := Lib.hid (RD.frm (w0 := w) (HTA.out.fr0 HF2.out) (HM.out.fr0 HF2.out) HFJ.out (by decide))
            obtain ⟨t, ht⟩ : ∃ t, (turnE true ta d).1 = t := ⟨_, rfl⟩
            obtain ⟨y2, hy2⟩ : ∃ y, (turnE true ta d).2 = y := ⟨_, rfl⟩
            have HT := Lib.hid ht
            have HY2 := Lib.hid hy2
            clear hMJ hF02 ht hy2
            by_cases h02 : y2 = 0
            · subst h02
              have hst := HSI.out.step HWX.out HY.out (by rw [HD.out]; exact HY2.out)
              rw [HD.out, HT.out] at hst
              have HST := Lib.hid hst
              clear hst
              go_wp2_with ((go_at_call 15); (with_reducible refine (add_any _ _ ta d _ HTJ.out HSJ.out (by omega) (by omega) HDR.out.2).mono ?_); rw [HT.out, HY2.out]; rintro e w3 hh; obtain ⟨v3, rfl, hS, hF⟩ := hh.case; have HS3 := Lib.hid hS; have HF3 := Lib.hid hF; obtain ⟨a3, c3, e3⟩ := hS.at_; subst e3; have k3 := (HFW.out.trans hF).cl HK0.out; clear hh hS hF)
              go_roundw
              case rel =>
                refine ⟨k + 1, lx, t, d.foldl sumStep m, nn + d.length, by omega, by go_num, Lib.hid (HX0.out.fr0 (HFW.out.trans HF3.out)), Lib.hid HS3.out.rd, HST, Lib.hid (HMJ2.out.fr0 HF3.out), by omega, Lib.hid (HFW.out.trans HF3.out)⟩
              case measure => simp [intOf]; omega
            · have h3 := HSI.out.add_no HWX.out (by rw [HD.out, HY2.out]; exact h02)
              rw [HD.out, HY2.out] at h3
              subst h3
              go_wp2_with ((go_at_call 15); (with_reducible refine (add_any _ _ ta d _ HTJ.out HSJ.out (by omega) (by omega) HDR.out.2).mono ?_); rw [HT.out, HY2.out]; rintro e w3 hh; obtain ⟨v3, rfl, hS, hF⟩ := hh.case; have HS3 := Lib.hid hS; have HF3 := Lib.hid hF; obtain ⟨a3, c3, e3⟩ := hS.at_; subst e3; clear hh hS hF)
              go_ret
              exact ⟨rfl, HFW.out.trans HF3.out⟩
      · have hyb : (y == 0) = false := by simpa using h0
        have hno := HSI.out.diff_no (now := lx) (by rw [HY.out]; exact h0)
        rw [HY.out] at hno
        obtain ⟨rb, hrb⟩ : ∃ rb, rightC lx = rb := ⟨_, rfl⟩
        rw [hrb] at hno
        have HRB := Lib.hid hrb
        clear hrb
        cases rb with
        | false =>
          clear hno
          go_wp2_with (first | ((go_at_call 13); (with_reducible refine (diff_any _ _ la lx _ HLA.out HX.out (by omega) (by omega) HSI.out.wl HWX.out).mono ?_); rw [HD.out, HY.out]; rintro e w2 hh; obtain ⟨v2, rfl, hS, hF⟩ := hh.case; have HF2 := Lib.hid hF; obtain ⟨a2, c2, e2⟩ := hS.at_; subst e2; have k2 := (HF.out.trans hF).cl HK0.out; clear hh hS hF k0) | ((go_at_call 14); (with_reducible refine (right_any _ lx _ (HX.out.fr0 HF2.out) (by omega)).mono ?_); rw [HRB.out]; rintro e w3 ⟨rfl, hF⟩; have HF3 := Lib.hid hF; clear hF))
          go_ret
          exact ⟨rfl, (HF.out.trans HF2.out).trans HF3.out⟩
        | true =>
          have h3 : y = 3 := hno.resolve_left (by simp)
          subst h3
          clear hno
          go_wp2_with (first | ((go_at_call 13); (with_reducible refine (diff_any _ _ la lx _ HLA.out HX.out (by omega) (by omega) HSI.out.wl HWX.out).mono ?_); rw [HD.out, HY.out]; rintro e w2 hh; obtain ⟨v2, rfl, hS, hF⟩ := hh.case; have HF2 := Lib.hid hF; obtain ⟨a2, c2, e2⟩ := hS.at_; subst e2; have k2 := (HF.out.trans hF).cl HK0.out; clear hh hS hF k0) | ((go_at_call 14); (with_reducible refine (right_any _ lx _ (HX.out.fr0 HF2.out) (by omega)).mono ?_); rw [HRB.out]; rintro e w3 ⟨rfl, hF⟩; have HF3 := Lib.hid hF; clear hF))
          go_ret
          exact ⟨rfl, (HF.out.trans HF2.out).trans HF3.out⟩
    · obtain rfl : k = L.length := by omega
      go_wp2
      go_loopw [14] (fun u wr5 => ∃ j : Nat, j ≤ la.length ∧ u = .int .i64 j ∧ Hid (Fr [] wr wr5)) (fun u _ => la.length - (intOf u).toNat)
      case atStart => exact ⟨0, by omega, rfl, Lib.hid (Fr.refl _ _)⟩
      case round =>
        obtain ⟨j, hj, rfl, HFJ⟩ := hrel
        by_cases hjl : j < la.length
        · obtain ⟨⟨s, n⟩, hj0⟩ : ∃ a, la[j]? = some a := ⟨_, List.getElem?_eq_getElem hjl⟩
          have hmem := List.mem_of_getElem? hj0
          obtain ⟨g', o', c', he, g1', g2', g3', g4'⟩ := HLA.out.cells (by omega)
          simp only [Value.slice.injEq] at he
          obtain ⟨rfl, -, rfl⟩ := he
          have m0 := g4' (j * 2) _ (flat2_get la j _ hj0).1
          have m1 := g4' (j * 2 + 1) _ (flat2_get la j _ hj0).2
          rw [← Nat.add_assoc] at m1
          simp only at m0 m1
          have HM0' := Lib.hid m0
          have HM1' := Lib.hid m1
          replace m0 := HFJ.out.cl m0
          replace m1 := HFJ.out.cl m1
          have hsz : s.size ≤ maxLen := by
            have := keyF_size ((rightC_iff.1 HSI.out.rl).1 _ hmem)
            unfold maxLen
            simp at this
            omega
          obtain ⟨bv, hbv⟩ : ∃ bv, (lk m s).getD false = bv := ⟨_, rfl⟩
          have hlk : (Instr.lookup 25 (.map (some w1.heap.size)) (.string s) false).run Try.prog wr = .ok (.bool bv) wr := by
            have h5 := (HM.out.fr0 HFJ.out).look s hsz
            unfold lkV at h5
            rw [show XB.zero = false from rfl, hbv] at h5
            exact h5
          have HBV := Lib.hid hbv
          have HMEM := Lib.hid hmem
          clear g4' hj0 hbv hmem
          cases bv with
          | false =>
            go_wp2
            go_roundw
            case rel => exact ⟨j + 1, by omega, by go_num, HFJ⟩
            case measure => simp [intOf]; omega
          | true =>
            have hfound : (s, n) ∈ ta := HSI.out.found HMEM.out (by
              have := HBV.out
              cases h9 : lk m s with
              | none => rw [h9] at this; cases this
              | some b => rw [h9] at this; simp at this; subst this; rfl)
            have HFD := Lib.hid hfound
            clear hfound
            go_wp2
            clear hlk m0 m1
            go_loopw [16, 15] (fun u fv wr6 => ∃ z : Nat, z ≤ ta.length ∧ u = .int .i64 z ∧ fv = .bool (hasC (ta.take z) s n) ∧ Hid (Fr [] wr wr6)) (fun u _ _ => ta.length - (intOf u).toNat)
            case atStart => exact ⟨0, by omega, rfl, by simp [hasC], Lib.hid (Fr.refl _ _)⟩
            case round =>
              obtain ⟨z, hz, rfl, hfv, HFZ⟩ := hrel
              by_cases hzl : z < ta.length
              · obtain ⟨⟨s', n'⟩, hz0⟩ : ∃ a, ta[z]? = some a := ⟨_, List.getElem?_eq_getElem hzl⟩
                obtain ⟨g6, o6, c6, he, g61, g62, g63, g64⟩ := HTA.out.cells (by omega)
                simp only [Value.slice.injEq] at he
                obtain ⟨rfl, -, rfl⟩ := he
                have t0 := g64 (z * 2) _ (flat2_get ta z _ hz0).1
                have t1 := g64 (z * 2 + 1) _ (flat2_get ta z _ hz0).2
                rw [← Nat.add_assoc] at t1
                simp only at t0 t1
                replace t0 := (HFJ.out.trans HFZ.out).cl t0
                replace t1 := (HFJ.out.trans HFZ.out).cl t1
                have m0 := (HFJ.out.trans HFZ.out).cl HM0'.out
                have m1 := (HFJ.out.trans HFZ.out).cl HM1'.out
                have hdec : hasC (ta.take (z + 1)) s n = (hasC (ta.take z) s n || (decide (s' = s) && decide (n' = n))) := by
                  unfold hasC
                  rw [List.take_add_one, hz0, List.any_append]
                  simp
                obtain ⟨fb, hfb⟩ : ∃ fb, hasC (ta.take z) s n = fb := ⟨_, rfl⟩
                rw [hfb] at hfv hdec
                subst hfv
                have HDEC := Lib.hid hdec
                clear hdec hfb g64 hz0
                cases fb with
                | true =>
                  go_wp2
                  go_quiet (fail)
                  go_wp2
                  go_roundw
                  case rel => exact ⟨z + 1, by omega, by go_num, by rw [HDEC.out]; rfl, Lib.hid (HFZ.out.drN _)⟩
                  case measure => simp [intOf]; omega
                | false =>
                  by_cases hs : s' = s
                  · subst hs
                    by_cases hn : n' = n
                    · subst hn
                      go_wp2
                      go_quiet (fail)
                      go_wp2
                      go_roundw
                      case rel => exact ⟨z + 1, by omega, by go_num, by rw [HDEC.out]; simp, Lib.hid (HFZ.out.drN _)⟩
                      case measure => simp [intOf]; omega
                    · have hnb : (n' == n) = false := by simpa using hn
                      have HNE := Lib.hid hn
                      clear hn
                      go_wp2
                      go_quiet (fail)
                      go_wp2
                      go_roundw
                      case rel => exact ⟨z + 1, by omega, by go_num, by rw [HDEC.out]; simp [HNE.out], Lib.hid (HFZ.out.drN _)⟩
                      case measure => simp [intOf]; omega
                  · have hsb := ba_beq hs
                    have HNE := Lib.hid hs
                    clear hs
                    go_wp2
                    go_quiet (fail)
                    go_wp2
                    go_roundw
                    case rel => exact ⟨z + 1, by omega, by go_num, by rw [HDEC.out]; simp [HNE.out], Lib.hid (HFZ.out.drN _)⟩
                    case measure => simp [intOf]; omega
              · obtain rfl : z = ta.length := by omega
                rw [List.take_length, hasC_mem HFD.out] at hfv
                subst hfv
                go_wp2
                go_roundw
                case rel => exact ⟨j + 1, by omega, by go_num, Lib.hid (HFJ.out.trans HFZ.out)⟩
                case measure => simp [intOf]; omega
        · obtain rfl : j = la.length := by omega
          go_wp2
          go_ret
          exact ⟨rfl, HF.out.trans HFJ.out⟩
end Go.Proofs.Ytmilnhicmeblhaa
